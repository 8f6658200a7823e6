/- Reset and Clone of a digest: contracts. -/
import Derived.Test.YtnkcbkfccbfjpaaSp
namespace Go.Proofs.Ytnkcbkfccbfjpaa.XxhW
open Go.RowKit Go.Proofs.YtnkcbkfccbfjpaaW.PrintWords Go.Proofs.YtnkcbkfccbfjpaaW.PrintLast Go.Proofs.YtnkcbkfccbfjpaaW.PrintMore
set_option linter.unusedVariables false
set_option linter.unusedSimpArgs false
set_option maxHeartbeats 4000000 in
set_option maxRecDepth 100000 in
theorem Reset32_calls (l : List Int) (g B : Nat) (rv : Value) (s : Int) (w : World) (hs : W32 s) (hd : D32 w B g s l rv) :
    Calls Try.prog 63 #[.pointer (some ⟨g, 0, none⟩)] w fun e w' => e = .returned (.tuple #[]) ∧ D32 w' w.heap.size g s [] (.slice none 0 0) ∧ Fr w w' (fun i => i ≠ g) := by
  have x2 := (IsD.at hd.d 2 (.int .u32 s) rfl).1
  have H := Aside0.mk (begun_calls s w hs.1 hs.2)
  have HD := Aside0.mk hd.d
  clear hd hs
  go_enter Try.func63, Try.ntmps63
  go_wp2_with (go_at_call 52; refine H.out.mono ?_; rintro e w1 ⟨rfl, hn, hb⟩; have HN := Aside0.mk hn; have HB := Aside0.mk hb; have HG := Aside0.mk ((hb.block g (blk_lt HD.out)).trans HD.out); clear hb hn; have y0 := (IsD.at HN.out 0 _ rfl).1; have y1 := (IsD.at HN.out 1 _ rfl).1; have y2 := (IsD.at HN.out 2 _ rfl).1; have y3 := (IsD.at HN.out 3 _ rfl).1; have y4 := (IsD.at HN.out 4 _ rfl).1; have y5 := (IsD.at HN.out 5 _ rfl).1; have y6 := (IsD.at HN.out 6 _ rfl).1; have z0 := IsD.at HG.out 0 _ rfl; have z1 := IsD.at HG.out 1 _ rfl; have z2 := IsD.at HG.out 2 _ rfl; have z3 := IsD.at HG.out 3 _ rfl; have z4 := IsD.at HG.out 4 _ rfl; have z5 := IsD.at HG.out 5 _ rfl; have z6 := IsD.at HG.out 6 _ rfl)
  go_end0
  have h0 := blk_set HG.out 0 (.slice none 0 0)
  have h1 := blk_set h0 1 (.int .u64 0)
  have h2 := blk_set h1 2 (.int .u32 s)
  have h3 := blk_set h2 3 (.int .u32 (X.init32 s).a)
  have h4 := blk_set h3 4 (.int .u32 (X.init32 s).b)
  have h5 := blk_set h4 5 (.int .u32 (X.init32 s).c)
  have h6 := blk_set h5 6 (.int .u32 (X.init32 s).d)
  refine ⟨rfl, ⟨h6, own_nil _ _ _ _⟩, ?_⟩
  exact (((((((Fr.of_below HB.out (fun i => i ≠ g)).then (Fr.set ⟨g, 0, none⟩ _)).then (Fr.set ⟨g, 1, none⟩ _)).then (Fr.set ⟨g, 2, none⟩ _)).then (Fr.set ⟨g, 3, none⟩ _)).then (Fr.set ⟨g, 4, none⟩ _)).then (Fr.set ⟨g, 5, none⟩ _)).then (Fr.set ⟨g, 6, none⟩ _)
set_option maxHeartbeats 4000000 in
set_option maxRecDepth 100000 in
theorem Clone32_calls (l : List Int) (g B : Nat) (rv : Value) (s : Int) (w : World) (hl : l.length ≤ 1099511627776) (hd : D32 w B g s l rv) :
    Calls Try.prog 65 #[.pointer (some ⟨g, 0, none⟩)] w fun e w' => ∃ rv', e = .returned (.pointer (some ⟨w.heap.size, 0, none⟩)) ∧ D32 w' w.heap.size w.heap.size s l rv' ∧ Below w.heap.size w w' := by
  obtain ⟨hdd, ho⟩ := hd
  obtain ⟨A, c, e⟩ := own_slice ho
  subst e
  have hwr := own_reads' ho
  have HR := Aside0.mk hwr
  have HD := Aside0.mk hdd
  have y0 := (IsD.at HD.out 0 _ rfl).1
  have y1 := (IsD.at HD.out 1 _ rfl).1
  have y2 := (IsD.at HD.out 2 _ rfl).1
  have y3 := (IsD.at HD.out 3 _ rfl).1
  have y4 := (IsD.at HD.out 4 _ rfl).1
  have y5 := (IsD.at HD.out 5 _ rfl).1
  have y6 := (IsD.at HD.out 6 _ rfl).1
  have hrl : (X.rest 16 l).length ≤ 1099511627776 := Nat.le_trans (rest_le _ _) hl
  clear hdd ho hl
  go_enter Try.func65, Try.ntmps65
  go_upto_region 2 with fail
  have HN := Aside0.mk (heap_alloc_new w (.cells #[.slice A (X.rest 16 l).length c, .int .u64 (l.length : Int), .int .u32 s, .int .u32 (X.run32 (l.length / 16) (X.init32 s) l).a, .int .u32 (X.run32 (l.length / 16) (X.init32 s) l).b, .int .u32 (X.run32 (l.length / 16) (X.init32 s) l).c, .int .u32 (X.run32 (l.length / 16) (X.init32 s) l).d] 104))
  have HB1 := Aside0.mk (below_alloc (Below.refl w.heap.size w) (.cells #[.slice A (X.rest 16 l).length c, .int .u64 (l.length : Int), .int .u32 s, .int .u32 (X.run32 (l.length / 16) (X.init32 s) l).a, .int .u32 (X.run32 (l.length / 16) (X.init32 s) l).b, .int .u32 (X.run32 (l.length / 16) (X.init32 s) l).c, .int .u32 (X.run32 (l.length / 16) (X.init32 s) l).d] 104))
  obtain ⟨w1, hw1⟩ : ∃ W, W = w.alloc (.cells #[.slice A (X.rest 16 l).length c, .int .u64 (l.length : Int), .int .u32 s, .int .u32 (X.run32 (l.length / 16) (X.init32 s) l).a, .int .u32 (X.run32 (l.length / 16) (X.init32 s) l).b, .int .u32 (X.run32 (l.length / 16) (X.init32 s) l).c, .int .u32 (X.run32 (l.length / 16) (X.init32 s) l).d] 104) := ⟨_, rfl⟩
  rw [← hw1] at HN HB1 ⊢
  clear hw1 y0 y1 y2 y3 y4 y5 y6 hwr
  have HN1 := Aside0.mk (show IsD w1 w.heap.size (.slice A (X.rest 16 l).length c) (l.length : Int) s (X.run32 (l.length / 16) (X.init32 s) l) from HN.out)
  have x0 := (IsD.at (HB1.out.block g (blk_lt HD.out) |>.trans HD.out) 0 _ rfl).1
  have HC := Aside0.mk (clone_any A c (X.rest 16 l) w1 (HR.out.below HB1.out) (by omega))
  clear HN
  go_wp2_with (go_at_call 68; refine HC.out.mono ?_; rintro e w2 ⟨A2, c2, rfl, ho2, hb2⟩; have HO2 := Aside0.mk ho2; have HB2 := Aside0.mk hb2; have HN2 := Aside0.mk ((hb2.block w.heap.size (blk_lt HN1.out)).trans HN1.out); have z0 := IsD.at HN2.out 0 _ rfl; clear ho2 hb2)
  go_ret
  have hset := blk_set HN2.out 0 (.slice A2 (X.rest 16 l).length c2)
  have hne : ∀ i, some i = (Value.slice A2 (X.rest 16 l).length c2).ownBlock → i ≠ w.heap.size := fun i hi he => by
    have h1 := (own_ge HO2.out i hi).1
    have h2 := blk_lt HN1.out
    omega
  refine ⟨_, rfl, ⟨hset, own_fr (Fr.set ⟨w.heap.size, 0, none⟩ _) (own_lower HO2.out HB1.out.size) (fun i hi => hne i hi)⟩, ?_⟩
  exact ((Fr.of_below (below_step HB1.out HB2.out) (fun i => i ≠ w.heap.size)).then (Fr.set ⟨w.heap.size, 0, none⟩ _)).below (fun i hi => ⟨hi, by omega⟩)
set_option maxHeartbeats 4000000 in
set_option maxRecDepth 100000 in
theorem Reset64_calls (l : List Int) (g B : Nat) (rv : Value) (s : Int) (w : World) (hs : W64 s) (hd : D64 w B g s l rv) :
    Calls Try.prog 64 #[.pointer (some ⟨g, 0, none⟩)] w fun e w' => e = .returned (.tuple #[]) ∧ D64 w' w.heap.size g s [] (.slice none 0 0) ∧ Fr w w' (fun i => i ≠ g) := by
  have x2 := (IsE.at hd.d 2 (.int .u64 s) rfl).1
  have H := Aside0.mk (ebegun_calls s w hs.1 hs.2)
  have HD := Aside0.mk hd.d
  clear hd hs
  go_enter Try.func64, Try.ntmps64
  go_wp2_with (go_at_call 55; refine H.out.mono ?_; rintro e w1 ⟨rfl, hn, hb⟩; have HN := Aside0.mk hn; have HB := Aside0.mk hb; have HG := Aside0.mk ((hb.block g (blk_lt HD.out)).trans HD.out); clear hb hn; have y0 := (IsE.at HN.out 0 _ rfl).1; have y1 := (IsE.at HN.out 1 _ rfl).1; have y2 := (IsE.at HN.out 2 _ rfl).1; have y3 := (IsE.at HN.out 3 _ rfl).1; have y4 := (IsE.at HN.out 4 _ rfl).1; have y5 := (IsE.at HN.out 5 _ rfl).1; have y6 := (IsE.at HN.out 6 _ rfl).1; have z0 := IsE.at HG.out 0 _ rfl; have z1 := IsE.at HG.out 1 _ rfl; have z2 := IsE.at HG.out 2 _ rfl; have z3 := IsE.at HG.out 3 _ rfl; have z4 := IsE.at HG.out 4 _ rfl; have z5 := IsE.at HG.out 5 _ rfl; have z6 := IsE.at HG.out 6 _ rfl)
  go_end0
  have h0 := blk_set HG.out 0 (.slice none 0 0)
  have h1 := blk_set h0 1 (.int .u64 0)
  have h2 := blk_set h1 2 (.int .u64 s)
  have h3 := blk_set h2 3 (.int .u64 (X.init64 s).a)
  have h4 := blk_set h3 4 (.int .u64 (X.init64 s).b)
  have h5 := blk_set h4 5 (.int .u64 (X.init64 s).c)
  have h6 := blk_set h5 6 (.int .u64 (X.init64 s).d)
  refine ⟨rfl, ⟨h6, own_nil _ _ _ _⟩, ?_⟩
  exact (((((((Fr.of_below HB.out (fun i => i ≠ g)).then (Fr.set ⟨g, 0, none⟩ _)).then (Fr.set ⟨g, 1, none⟩ _)).then (Fr.set ⟨g, 2, none⟩ _)).then (Fr.set ⟨g, 3, none⟩ _)).then (Fr.set ⟨g, 4, none⟩ _)).then (Fr.set ⟨g, 5, none⟩ _)).then (Fr.set ⟨g, 6, none⟩ _)
set_option maxHeartbeats 4000000 in
set_option maxRecDepth 100000 in
theorem Clone64_calls (l : List Int) (g B : Nat) (rv : Value) (s : Int) (w : World) (hl : l.length ≤ 1099511627776) (hd : D64 w B g s l rv) :
    Calls Try.prog 66 #[.pointer (some ⟨g, 0, none⟩)] w fun e w' => ∃ rv', e = .returned (.pointer (some ⟨w.heap.size, 0, none⟩)) ∧ D64 w' w.heap.size w.heap.size s l rv' ∧ Below w.heap.size w w' := by
  obtain ⟨hdd, ho⟩ := hd
  obtain ⟨A, c, e⟩ := own_slice ho
  subst e
  have hwr := own_reads' ho
  have HR := Aside0.mk hwr
  have HD := Aside0.mk hdd
  have y0 := (IsE.at HD.out 0 _ rfl).1
  have y1 := (IsE.at HD.out 1 _ rfl).1
  have y2 := (IsE.at HD.out 2 _ rfl).1
  have y3 := (IsE.at HD.out 3 _ rfl).1
  have y4 := (IsE.at HD.out 4 _ rfl).1
  have y5 := (IsE.at HD.out 5 _ rfl).1
  have y6 := (IsE.at HD.out 6 _ rfl).1
  have hrl : (X.rest 32 l).length ≤ 1099511627776 := Nat.le_trans (rest_le _ _) hl
  clear hdd ho hl
  go_enter Try.func66, Try.ntmps66
  go_upto_region 2 with fail
  have HN := Aside0.mk (heap_alloc_new w (.cells #[.slice A (X.rest 32 l).length c, .int .u64 (l.length : Int), .int .u64 s, .int .u64 (X.run64 (l.length / 32) (X.init64 s) l).a, .int .u64 (X.run64 (l.length / 32) (X.init64 s) l).b, .int .u64 (X.run64 (l.length / 32) (X.init64 s) l).c, .int .u64 (X.run64 (l.length / 32) (X.init64 s) l).d] 106))
  have HB1 := Aside0.mk (below_alloc (Below.refl w.heap.size w) (.cells #[.slice A (X.rest 32 l).length c, .int .u64 (l.length : Int), .int .u64 s, .int .u64 (X.run64 (l.length / 32) (X.init64 s) l).a, .int .u64 (X.run64 (l.length / 32) (X.init64 s) l).b, .int .u64 (X.run64 (l.length / 32) (X.init64 s) l).c, .int .u64 (X.run64 (l.length / 32) (X.init64 s) l).d] 106))
  obtain ⟨w1, hw1⟩ : ∃ W, W = w.alloc (.cells #[.slice A (X.rest 32 l).length c, .int .u64 (l.length : Int), .int .u64 s, .int .u64 (X.run64 (l.length / 32) (X.init64 s) l).a, .int .u64 (X.run64 (l.length / 32) (X.init64 s) l).b, .int .u64 (X.run64 (l.length / 32) (X.init64 s) l).c, .int .u64 (X.run64 (l.length / 32) (X.init64 s) l).d] 106) := ⟨_, rfl⟩
  rw [← hw1] at HN HB1 ⊢
  clear hw1 y0 y1 y2 y3 y4 y5 y6 hwr
  have HN1 := Aside0.mk (show IsE w1 w.heap.size (.slice A (X.rest 32 l).length c) (l.length : Int) s (X.run64 (l.length / 32) (X.init64 s) l) from HN.out)
  have x0 := (IsE.at (HB1.out.block g (blk_lt HD.out) |>.trans HD.out) 0 _ rfl).1
  have HC := Aside0.mk (clone_any A c (X.rest 32 l) w1 (HR.out.below HB1.out) (by omega))
  clear HN
  go_wp2_with (go_at_call 68; refine HC.out.mono ?_; rintro e w2 ⟨A2, c2, rfl, ho2, hb2⟩; have HO2 := Aside0.mk ho2; have HB2 := Aside0.mk hb2; have HN2 := Aside0.mk ((hb2.block w.heap.size (blk_lt HN1.out)).trans HN1.out); have z0 := IsE.at HN2.out 0 _ rfl; clear ho2 hb2)
  go_ret
  have hset := blk_set HN2.out 0 (.slice A2 (X.rest 32 l).length c2)
  have hne : ∀ i, some i = (Value.slice A2 (X.rest 32 l).length c2).ownBlock → i ≠ w.heap.size := fun i hi he => by
    have h1 := (own_ge HO2.out i hi).1
    have h2 := blk_lt HN1.out
    omega
  refine ⟨_, rfl, ⟨hset, own_fr (Fr.set ⟨w.heap.size, 0, none⟩ _) (own_lower HO2.out HB1.out.size) (fun i hi => hne i hi)⟩, ?_⟩
  exact ((Fr.of_below (below_step HB1.out HB2.out) (fun i => i ≠ w.heap.size)).then (Fr.set ⟨w.heap.size, 0, none⟩ _)).below (fun i hi => ⟨hi, by omega⟩)
end Go.Proofs.Ytnkcbkfccbfjpaa.XxhW
