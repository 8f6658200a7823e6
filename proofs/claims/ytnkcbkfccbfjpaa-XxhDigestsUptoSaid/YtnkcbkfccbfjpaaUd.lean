/- clones of the state of XxhDigests. -/
import Derived.Test.YtnkcbkfccbfjpaaUc
import Derived.Test.YtnkcbkfccbfjpaaKc
import Derived.Lib.SlBytesConst
namespace Go.Proofs.Ytnkcbkfccbfjpaa.XxhW
open Go.RowKit Go.Proofs.YtnkcbkfccbfjpaaW.PrintWords Go.Proofs.YtnkcbkfccbfjpaaW.PrintLast Go.Proofs.YtnkcbkfccbfjpaaW.PrintMore
set_option linter.unusedVariables false
set_option linter.unusedSimpArgs false
/-- An object whole. -/
def Res.obj (g : Nat) (o : Obj) : Res where
  foot i := i = g
  holds w := w.heap[g]? = some o
  lt := fun w h i hi => by subst hi; exact blk_lt h
  keep := fun w w' h hk => (hk g rfl).trans h
def junkL : List Int := [108, 101, 102, 116, 32, 98, 101, 104, 105, 110, 100, 44, 32, 97, 110, 100, 32, 108, 111, 110, 103, 32, 101, 110, 111, 117, 103, 104, 32, 102, 111, 114, 32, 97, 110, 121, 32, 115, 116, 114, 105, 112, 101, 32, 116, 104, 97, 116, 32, 116, 104, 101, 114, 101, 32, 105, 115]
def junkC : Array Value := (nums .u8 junkL).toArray
theorem junk_reads {w : World} {g : Nat} (h : w.heap[g]? = some (.cells junkC 5 (57, 58))) : ReadsInt w .u8 (some ⟨g, 0, none⟩) junkL.length junkL := by
  refine ⟨rfl, by decide, fun _ => ⟨_, rfl, fun i hi => ?_⟩⟩
  rw [Addr.add_lit, Nat.zero_add, cell_of_row w g i _ 5 (57, 58) h]
  have e : junkC = (nums .u8 junkL).toArray := rfl
  rw [e, List.getElem?_toArray]
  simp only [nums, List.getElem?_map, List.getElem?_eq_getElem hi, Option.map_some, List.getD_eq_getElem?_getD, Option.getD_some]
theorem bytes_junkL : Bytes junkL := fun i => by
  show 0 ≤ junkL.getD i 0 ∧ junkL.getD i 0 < 256
  rcases Nat.lt_or_ge i 57 with c2 | c2
  · have : ∀ k : Fin 57, 0 ≤ junkL.getD k.1 0 ∧ junkL.getD k.1 0 < 256 := by decide
    exact this ⟨i, c2⟩
  · rw [List.getD_eq_getElem?_getD, List.getElem?_eq_none (show junkL.length ≤ i from c2)]
    decide
theorem bytes_junk {l : List Int} (h : Bytes l) : Bytes (l ++ junkL) := bytes_app h bytes_junkL
theorem sep_perm {w0 w : World} {l l' : List Res} (h : Sep w0 w l) (p : l.Perm l') : Sep w0 w l' :=
  ⟨h.B, fun r hr => h.h r (p.mem_iff.2 hr), fun r hr => h.ge r (p.mem_iff.2 hr), (p.pairwise_iff (fun {a b} hab i h1 h2 => hab i h2 h1)).1 h.ne⟩
theorem perm_ins0 (n b : Res) (z : List Res) : (n :: b :: z).Perm (b :: n :: z) := List.Perm.swap _ _ _
theorem perm_ins1 (n b c : Res) (z : List Res) : (n :: b :: c :: z).Perm (b :: c :: n :: z) := (List.perm_middle (l₁ := [b, c])).symm
theorem perm_ins2 (n b c d : Res) (z : List Res) : (n :: b :: c :: d :: z).Perm (b :: c :: d :: n :: z) := (List.perm_middle (l₁ := [b, c, d])).symm
theorem perm_ins3 (n b c d e : Res) (z : List Res) : (n :: b :: c :: d :: e :: z).Perm (b :: c :: d :: e :: n :: z) := (List.perm_middle (l₁ := [b, c, d, e])).symm
set_option maxHeartbeats 8000000 in
set_option maxRecDepth 100000 in
theorem clones0 (w0 w : World) (gs : Nat) (seed wide : Int) (ga gb gc gd : Nat) (ra rb rc rd t0 t1 t2 t3 : Value) (la lb lc ld : List Int) (hS : Sep w0 w (listS w0.heap.size gs seed wide ⟨ga, gb, gc, gd, ra, rb, rc, rd, t0, t1, t2, t3⟩ la lb lc ld)) (hw : W64 seed) (hb : Bytes la) (hl : la.length ≤ 1099511627776) :
    Calls Try.prog 37 #[.pointer (some ⟨gs, 0, none⟩), .int .i64 0] w fun e w' => e = .returned (.bool true) ∧ SI w0 w' gs seed wide la lb lc ld := by
  have HS := Aside0.mk hS
  have HBY := Aside0.mk (bytes_junk hb)
  have HL := Aside0.mk hl
  clear hS hw hb hl
  have kc := fun (W : World) (C : Array Value) (n c : Nat) => Lib.run_convert_bytes_const (P := Try.prog) W 22 5 C n c Try.underlying22 Try.underlying5
  go_enter Try.func37, Try.ntmps37
  go_upto_region 2 with fail
  change Code.wp _ _ _ _ (w.alloc (.cells junkC 5 (57, 58)))
  clear kc
  have HS1 := Aside0.mk (HS.out.push (below_alloc (Below.refl _ _) (.cells junkC 5 (57, 58))) (Res.obj w.heap.size (.cells junkC 5 (57, 58))) (heap_alloc_new w _) (fun i hi => by have : i = w.heap.size := hi; omega))
  obtain ⟨w1, hw1⟩ : ∃ W, W = w.alloc (.cells junkC 5 (57, 58)) := ⟨_, rfl⟩
  rw [← hw1] at HS1 ⊢
  clear hw1
  have p0 : w1.cell? ⟨gs, 0, none⟩ = some (.pointer (some ⟨ga, 0, none⟩)) := cell_of_row w1 gs 0 _ 57 (0, 0) (HS1.out.h _ (List.mem_cons_of_mem _ List.mem_cons_self))
  have HC := Aside0.mk (Clone32_calls la ga w0.heap.size ra (seed % 4294967296) w1 HL.out (res32_d (HS1.out.h _ (List.mem_cons_of_mem _ (List.mem_cons_of_mem _ (List.mem_cons_self))))))
  go_upto_region 6 with (go_at_call 65; refine HC.out.mono ?_; rintro e w2 ⟨rv', rfl, hd2, hb2⟩; have HS2 := Aside0.mk (HS1.out.push hb2 (res32 w0.heap.size w1.heap.size (seed % 4294967296) la rv') (d_res32 (hd2.lower HS1.out.B.size)) (fun i hi => hi.elim (fun e => Nat.le_of_eq (show i = w1.heap.size from e).symm) (fun e => (own_ge hd2.o i e).1))); have q0 : w2.cell? ⟨gs, 0, none⟩ = some (.pointer (some ⟨ga, 0, none⟩)) := cell_of_row w2 gs 0 _ 57 (0, 0) (HS2.out.h _ (List.mem_cons_of_mem _ (List.mem_cons_of_mem _ List.mem_cons_self))); have q1 := blk_frozen (show w2.heap[gs]? = some (.cells (stC seed wide ⟨ga, gb, gc, gd, ra, rb, rc, rd, t0, t1, t2, t3⟩) 57 (0, 0)) from HS2.out.h _ (List.mem_cons_of_mem _ (List.mem_cons_of_mem _ List.mem_cons_self))) 0; clear hd2 hb2)
  have HS3 := Aside0.mk (HS2.out.put 2 gs (stC seed wide ⟨ga, gb, gc, gd, ra, rb, rc, rd, t0, t1, t2, t3⟩) 57 rfl 0 (.pointer (some ⟨w1.heap.size, 0, none⟩)) (show 0 < 10 by decide))
  clear HC HS HS2 q0 q1 p0
  generalize w2.setCell ⟨gs, 0, none⟩ (.pointer (some ⟨w1.heap.size, 0, none⟩)) = w3 at HS3 ⊢
  have HW := Aside0.mk (Write32_calls (some ⟨w.heap.size, 0, none⟩) 57 junkL la ga w0.heap.size ra (seed % 4294967296) w3 (junk_reads (HS3.out.h (Res.obj w.heap.size (.cells junkC 5 (57, 58))) (List.mem_cons_of_mem _ List.mem_cons_self))) HBY.out (res32_d (HS3.out.h _ (List.mem_cons_of_mem _ (List.mem_cons_of_mem _ (List.mem_cons_of_mem _ (List.mem_cons_self)))))) HS3.out.B.size (by have := HL.out; have : junkL.length = 57 := rfl; omega))
  go_upto_region 7 with (go_at_call 28; refine HW.out.mono ?_; rintro e w4 ⟨rfl, rv2, hd, hf⟩; have HS4 := Aside0.mk (HS3.out.upd 3 _ (res32 w0.heap.size ga (seed % 4294967296) (la ++ junkL) rv2) rfl (d_res32 (hd.lower HS3.out.B.size)) (hf.mono (fun i _ hi => ⟨fun e => hi (.inl e), fun e => hi (.inr e)⟩)) (fun i hi => hi.elim (fun e => .inl (.inl e)) (fun e => .inr (own_ge hd.o i e).1))); have r0 : w4.cell? ⟨gs, 0, none⟩ = some (.pointer (some ⟨w1.heap.size, 0, none⟩)) := cell_of_row w4 gs 0 _ 57 (0, 0) (HS4.out.h _ (List.mem_cons_of_mem _ (List.mem_cons_of_mem _ List.mem_cons_self))); clear hd hf)
  clear HW HS3
  go_wp2
  go_ret
  refine ⟨rfl, ⟨⟨w1.heap.size, gb, gc, gd, rv', rb, rc, rd, t0, t1, t2, t3⟩, ?_⟩⟩
  have h := (HS4.out.drop 3).drop 1
  exact sep_perm h (perm_ins0 _ _ _)
set_option maxHeartbeats 8000000 in
set_option maxRecDepth 100000 in
theorem clones1 (w0 w : World) (gs : Nat) (seed wide : Int) (ga gb gc gd : Nat) (ra rb rc rd t0 t1 t2 t3 : Value) (la lb lc ld : List Int) (hS : Sep w0 w (listS w0.heap.size gs seed wide ⟨ga, gb, gc, gd, ra, rb, rc, rd, t0, t1, t2, t3⟩ la lb lc ld)) (hw : W64 wide) (hb : Bytes lb) (hl : lb.length ≤ 1099511627776) :
    Calls Try.prog 37 #[.pointer (some ⟨gs, 0, none⟩), .int .i64 1] w fun e w' => e = .returned (.bool true) ∧ SI w0 w' gs seed wide la lb lc ld := by
  have HS := Aside0.mk hS
  have HBY := Aside0.mk (bytes_junk hb)
  have HL := Aside0.mk hl
  clear hS hw hb hl
  have kc := fun (W : World) (C : Array Value) (n c : Nat) => Lib.run_convert_bytes_const (P := Try.prog) W 22 5 C n c Try.underlying22 Try.underlying5
  go_enter Try.func37, Try.ntmps37
  go_upto_region 2 with fail
  change Code.wp _ _ _ _ (w.alloc (.cells junkC 5 (57, 58)))
  clear kc
  have HS1 := Aside0.mk (HS.out.push (below_alloc (Below.refl _ _) (.cells junkC 5 (57, 58))) (Res.obj w.heap.size (.cells junkC 5 (57, 58))) (heap_alloc_new w _) (fun i hi => by have : i = w.heap.size := hi; omega))
  obtain ⟨w1, hw1⟩ : ∃ W, W = w.alloc (.cells junkC 5 (57, 58)) := ⟨_, rfl⟩
  rw [← hw1] at HS1 ⊢
  clear hw1
  have p0 : w1.cell? ⟨gs, 1, none⟩ = some (.pointer (some ⟨gb, 0, none⟩)) := cell_of_row w1 gs 1 _ 57 (0, 0) (HS1.out.h _ (List.mem_cons_of_mem _ List.mem_cons_self))
  have HC := Aside0.mk (Clone32_calls lb gb w0.heap.size rb (wide % 4294967296) w1 HL.out (res32_d (HS1.out.h _ (List.mem_cons_of_mem _ (List.mem_cons_of_mem _ (List.mem_cons_of_mem _ (List.mem_cons_self)))))))
  go_upto_region 11 with (go_at_call 65; refine HC.out.mono ?_; rintro e w2 ⟨rv', rfl, hd2, hb2⟩; have HS2 := Aside0.mk (HS1.out.push hb2 (res32 w0.heap.size w1.heap.size (wide % 4294967296) lb rv') (d_res32 (hd2.lower HS1.out.B.size)) (fun i hi => hi.elim (fun e => Nat.le_of_eq (show i = w1.heap.size from e).symm) (fun e => (own_ge hd2.o i e).1))); have q0 : w2.cell? ⟨gs, 1, none⟩ = some (.pointer (some ⟨gb, 0, none⟩)) := cell_of_row w2 gs 1 _ 57 (0, 0) (HS2.out.h _ (List.mem_cons_of_mem _ (List.mem_cons_of_mem _ List.mem_cons_self))); have q1 := blk_frozen (show w2.heap[gs]? = some (.cells (stC seed wide ⟨ga, gb, gc, gd, ra, rb, rc, rd, t0, t1, t2, t3⟩) 57 (0, 0)) from HS2.out.h _ (List.mem_cons_of_mem _ (List.mem_cons_of_mem _ List.mem_cons_self))) 1; clear hd2 hb2)
  have HS3 := Aside0.mk (HS2.out.put 2 gs (stC seed wide ⟨ga, gb, gc, gd, ra, rb, rc, rd, t0, t1, t2, t3⟩) 57 rfl 1 (.pointer (some ⟨w1.heap.size, 0, none⟩)) (show 1 < 10 by decide))
  clear HC HS HS2 q0 q1 p0
  generalize w2.setCell ⟨gs, 1, none⟩ (.pointer (some ⟨w1.heap.size, 0, none⟩)) = w3 at HS3 ⊢
  have HW := Aside0.mk (Write32_calls (some ⟨w.heap.size, 0, none⟩) 57 junkL lb gb w0.heap.size rb (wide % 4294967296) w3 (junk_reads (HS3.out.h (Res.obj w.heap.size (.cells junkC 5 (57, 58))) (List.mem_cons_of_mem _ List.mem_cons_self))) HBY.out (res32_d (HS3.out.h _ (List.mem_cons_of_mem _ (List.mem_cons_of_mem _ (List.mem_cons_of_mem _ (List.mem_cons_of_mem _ (List.mem_cons_self))))))) HS3.out.B.size (by have := HL.out; have : junkL.length = 57 := rfl; omega))
  go_upto_region 12 with (go_at_call 28; refine HW.out.mono ?_; rintro e w4 ⟨rfl, rv2, hd, hf⟩; have HS4 := Aside0.mk (HS3.out.upd 4 _ (res32 w0.heap.size gb (wide % 4294967296) (lb ++ junkL) rv2) rfl (d_res32 (hd.lower HS3.out.B.size)) (hf.mono (fun i _ hi => ⟨fun e => hi (.inl e), fun e => hi (.inr e)⟩)) (fun i hi => hi.elim (fun e => .inl (.inl e)) (fun e => .inr (own_ge hd.o i e).1))); have r0 : w4.cell? ⟨gs, 1, none⟩ = some (.pointer (some ⟨w1.heap.size, 0, none⟩)) := cell_of_row w4 gs 1 _ 57 (0, 0) (HS4.out.h _ (List.mem_cons_of_mem _ (List.mem_cons_of_mem _ List.mem_cons_self))); clear hd hf)
  clear HW HS3
  go_wp2
  go_ret
  refine ⟨rfl, ⟨⟨ga, w1.heap.size, gc, gd, ra, rv', rc, rd, t0, t1, t2, t3⟩, ?_⟩⟩
  have h := (HS4.out.drop 4).drop 1
  exact sep_perm h (perm_ins1 _ _ _ _)
set_option maxHeartbeats 8000000 in
set_option maxRecDepth 100000 in
theorem clones2 (w0 w : World) (gs : Nat) (seed wide : Int) (ga gb gc gd : Nat) (ra rb rc rd t0 t1 t2 t3 : Value) (la lb lc ld : List Int) (hS : Sep w0 w (listS w0.heap.size gs seed wide ⟨ga, gb, gc, gd, ra, rb, rc, rd, t0, t1, t2, t3⟩ la lb lc ld)) (hw : W64 seed) (hb : Bytes lc) (hl : lc.length ≤ 1099511627776) :
    Calls Try.prog 37 #[.pointer (some ⟨gs, 0, none⟩), .int .i64 2] w fun e w' => e = .returned (.bool true) ∧ SI w0 w' gs seed wide la lb lc ld := by
  have HS := Aside0.mk hS
  have HBY := Aside0.mk (bytes_junk hb)
  have HL := Aside0.mk hl
  clear hS hw hb hl
  have kc := fun (W : World) (C : Array Value) (n c : Nat) => Lib.run_convert_bytes_const (P := Try.prog) W 22 5 C n c Try.underlying22 Try.underlying5
  go_enter Try.func37, Try.ntmps37
  go_upto_region 2 with fail
  change Code.wp _ _ _ _ (w.alloc (.cells junkC 5 (57, 58)))
  clear kc
  have HS1 := Aside0.mk (HS.out.push (below_alloc (Below.refl _ _) (.cells junkC 5 (57, 58))) (Res.obj w.heap.size (.cells junkC 5 (57, 58))) (heap_alloc_new w _) (fun i hi => by have : i = w.heap.size := hi; omega))
  obtain ⟨w1, hw1⟩ : ∃ W, W = w.alloc (.cells junkC 5 (57, 58)) := ⟨_, rfl⟩
  rw [← hw1] at HS1 ⊢
  clear hw1
  have p0 : w1.cell? ⟨gs, 2, none⟩ = some (.pointer (some ⟨gc, 0, none⟩)) := cell_of_row w1 gs 2 _ 57 (0, 0) (HS1.out.h _ (List.mem_cons_of_mem _ List.mem_cons_self))
  have HC := Aside0.mk (Clone64_calls lc gc w0.heap.size rc seed w1 HL.out (res64_d (HS1.out.h _ (List.mem_cons_of_mem _ (List.mem_cons_of_mem _ (List.mem_cons_of_mem _ (List.mem_cons_of_mem _ (List.mem_cons_self))))))))
  go_upto_region 16 with (go_at_call 66; refine HC.out.mono ?_; rintro e w2 ⟨rv', rfl, hd2, hb2⟩; have HS2 := Aside0.mk (HS1.out.push hb2 (res64 w0.heap.size w1.heap.size seed lc rv') (d_res64 (hd2.lower HS1.out.B.size)) (fun i hi => hi.elim (fun e => Nat.le_of_eq (show i = w1.heap.size from e).symm) (fun e => (own_ge hd2.o i e).1))); have q0 : w2.cell? ⟨gs, 2, none⟩ = some (.pointer (some ⟨gc, 0, none⟩)) := cell_of_row w2 gs 2 _ 57 (0, 0) (HS2.out.h _ (List.mem_cons_of_mem _ (List.mem_cons_of_mem _ List.mem_cons_self))); have q1 := blk_frozen (show w2.heap[gs]? = some (.cells (stC seed wide ⟨ga, gb, gc, gd, ra, rb, rc, rd, t0, t1, t2, t3⟩) 57 (0, 0)) from HS2.out.h _ (List.mem_cons_of_mem _ (List.mem_cons_of_mem _ List.mem_cons_self))) 2; clear hd2 hb2)
  have HS3 := Aside0.mk (HS2.out.put 2 gs (stC seed wide ⟨ga, gb, gc, gd, ra, rb, rc, rd, t0, t1, t2, t3⟩) 57 rfl 2 (.pointer (some ⟨w1.heap.size, 0, none⟩)) (show 2 < 10 by decide))
  clear HC HS HS2 q0 q1 p0
  generalize w2.setCell ⟨gs, 2, none⟩ (.pointer (some ⟨w1.heap.size, 0, none⟩)) = w3 at HS3 ⊢
  have HW := Aside0.mk (Write64_calls (some ⟨w.heap.size, 0, none⟩) 57 junkL lc gc w0.heap.size rc seed w3 (junk_reads (HS3.out.h (Res.obj w.heap.size (.cells junkC 5 (57, 58))) (List.mem_cons_of_mem _ List.mem_cons_self))) HBY.out (res64_d (HS3.out.h _ (List.mem_cons_of_mem _ (List.mem_cons_of_mem _ (List.mem_cons_of_mem _ (List.mem_cons_of_mem _ (List.mem_cons_of_mem _ (List.mem_cons_self)))))))) HS3.out.B.size (by have := HL.out; have : junkL.length = 57 := rfl; omega))
  go_upto_region 17 with (go_at_call 29; refine HW.out.mono ?_; rintro e w4 ⟨rfl, rv2, hd, hf⟩; have HS4 := Aside0.mk (HS3.out.upd 5 _ (res64 w0.heap.size gc seed (lc ++ junkL) rv2) rfl (d_res64 (hd.lower HS3.out.B.size)) (hf.mono (fun i _ hi => ⟨fun e => hi (.inl e), fun e => hi (.inr e)⟩)) (fun i hi => hi.elim (fun e => .inl (.inl e)) (fun e => .inr (own_ge hd.o i e).1))); have r0 : w4.cell? ⟨gs, 2, none⟩ = some (.pointer (some ⟨w1.heap.size, 0, none⟩)) := cell_of_row w4 gs 2 _ 57 (0, 0) (HS4.out.h _ (List.mem_cons_of_mem _ (List.mem_cons_of_mem _ List.mem_cons_self))); clear hd hf)
  clear HW HS3
  go_wp2
  go_ret
  refine ⟨rfl, ⟨⟨ga, gb, w1.heap.size, gd, ra, rb, rv', rd, t0, t1, t2, t3⟩, ?_⟩⟩
  have h := (HS4.out.drop 5).drop 1
  exact sep_perm h (perm_ins2 _ _ _ _ _)
set_option maxHeartbeats 8000000 in
set_option maxRecDepth 100000 in
theorem clones3 (w0 w : World) (gs : Nat) (seed wide : Int) (ga gb gc gd : Nat) (ra rb rc rd t0 t1 t2 t3 : Value) (la lb lc ld : List Int) (hS : Sep w0 w (listS w0.heap.size gs seed wide ⟨ga, gb, gc, gd, ra, rb, rc, rd, t0, t1, t2, t3⟩ la lb lc ld)) (hw : W64 wide) (hb : Bytes ld) (hl : ld.length ≤ 1099511627776) :
    Calls Try.prog 37 #[.pointer (some ⟨gs, 0, none⟩), .int .i64 3] w fun e w' => e = .returned (.bool true) ∧ SI w0 w' gs seed wide la lb lc ld := by
  have HS := Aside0.mk hS
  have HBY := Aside0.mk (bytes_junk hb)
  have HL := Aside0.mk hl
  clear hS hw hb hl
  have kc := fun (W : World) (C : Array Value) (n c : Nat) => Lib.run_convert_bytes_const (P := Try.prog) W 22 5 C n c Try.underlying22 Try.underlying5
  go_enter Try.func37, Try.ntmps37
  go_upto_region 2 with fail
  change Code.wp _ _ _ _ (w.alloc (.cells junkC 5 (57, 58)))
  clear kc
  have HS1 := Aside0.mk (HS.out.push (below_alloc (Below.refl _ _) (.cells junkC 5 (57, 58))) (Res.obj w.heap.size (.cells junkC 5 (57, 58))) (heap_alloc_new w _) (fun i hi => by have : i = w.heap.size := hi; omega))
  obtain ⟨w1, hw1⟩ : ∃ W, W = w.alloc (.cells junkC 5 (57, 58)) := ⟨_, rfl⟩
  rw [← hw1] at HS1 ⊢
  clear hw1
  have p0 : w1.cell? ⟨gs, 3, none⟩ = some (.pointer (some ⟨gd, 0, none⟩)) := cell_of_row w1 gs 3 _ 57 (0, 0) (HS1.out.h _ (List.mem_cons_of_mem _ List.mem_cons_self))
  have HC := Aside0.mk (Clone64_calls ld gd w0.heap.size rd wide w1 HL.out (res64_d (HS1.out.h _ (List.mem_cons_of_mem _ (List.mem_cons_of_mem _ (List.mem_cons_of_mem _ (List.mem_cons_of_mem _ (List.mem_cons_of_mem _ (List.mem_cons_self)))))))))
  go_upto_region 20 with (go_at_call 66; refine HC.out.mono ?_; rintro e w2 ⟨rv', rfl, hd2, hb2⟩; have HS2 := Aside0.mk (HS1.out.push hb2 (res64 w0.heap.size w1.heap.size wide ld rv') (d_res64 (hd2.lower HS1.out.B.size)) (fun i hi => hi.elim (fun e => Nat.le_of_eq (show i = w1.heap.size from e).symm) (fun e => (own_ge hd2.o i e).1))); have q0 : w2.cell? ⟨gs, 3, none⟩ = some (.pointer (some ⟨gd, 0, none⟩)) := cell_of_row w2 gs 3 _ 57 (0, 0) (HS2.out.h _ (List.mem_cons_of_mem _ (List.mem_cons_of_mem _ List.mem_cons_self))); have q1 := blk_frozen (show w2.heap[gs]? = some (.cells (stC seed wide ⟨ga, gb, gc, gd, ra, rb, rc, rd, t0, t1, t2, t3⟩) 57 (0, 0)) from HS2.out.h _ (List.mem_cons_of_mem _ (List.mem_cons_of_mem _ List.mem_cons_self))) 3; clear hd2 hb2)
  have HS3 := Aside0.mk (HS2.out.put 2 gs (stC seed wide ⟨ga, gb, gc, gd, ra, rb, rc, rd, t0, t1, t2, t3⟩) 57 rfl 3 (.pointer (some ⟨w1.heap.size, 0, none⟩)) (show 3 < 10 by decide))
  clear HC HS HS2 q0 q1 p0
  generalize w2.setCell ⟨gs, 3, none⟩ (.pointer (some ⟨w1.heap.size, 0, none⟩)) = w3 at HS3 ⊢
  have HW := Aside0.mk (Write64_calls (some ⟨w.heap.size, 0, none⟩) 57 junkL ld gd w0.heap.size rd wide w3 (junk_reads (HS3.out.h (Res.obj w.heap.size (.cells junkC 5 (57, 58))) (List.mem_cons_of_mem _ List.mem_cons_self))) HBY.out (res64_d (HS3.out.h _ (List.mem_cons_of_mem _ (List.mem_cons_of_mem _ (List.mem_cons_of_mem _ (List.mem_cons_of_mem _ (List.mem_cons_of_mem _ (List.mem_cons_of_mem _ (List.mem_cons_self))))))))) HS3.out.B.size (by have := HL.out; have : junkL.length = 57 := rfl; omega))
  go_upto_region 21 with (go_at_call 29; refine HW.out.mono ?_; rintro e w4 ⟨rfl, rv2, hd, hf⟩; have HS4 := Aside0.mk (HS3.out.upd 6 _ (res64 w0.heap.size gd wide (ld ++ junkL) rv2) rfl (d_res64 (hd.lower HS3.out.B.size)) (hf.mono (fun i _ hi => ⟨fun e => hi (.inl e), fun e => hi (.inr e)⟩)) (fun i hi => hi.elim (fun e => .inl (.inl e)) (fun e => .inr (own_ge hd.o i e).1))); have r0 : w4.cell? ⟨gs, 3, none⟩ = some (.pointer (some ⟨w1.heap.size, 0, none⟩)) := cell_of_row w4 gs 3 _ 57 (0, 0) (HS4.out.h _ (List.mem_cons_of_mem _ (List.mem_cons_of_mem _ List.mem_cons_self))); clear hd hf)
  clear HW HS3
  go_wp2
  go_ret
  refine ⟨rfl, ⟨⟨ga, gb, gc, w1.heap.size, ra, rb, rc, rv', t0, t1, t2, t3⟩, ?_⟩⟩
  have h := (HS4.out.drop 6).drop 1
  exact sep_perm h (perm_ins3 _ _ _ _ _ _)
end Go.Proofs.Ytnkcbkfccbfjpaa.XxhW
