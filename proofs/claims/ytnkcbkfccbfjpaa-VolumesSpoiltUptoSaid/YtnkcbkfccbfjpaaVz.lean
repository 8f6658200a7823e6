/- get of volumes (f67): the walk, case by case. -/
import Derived.Test.YtnkcbkfccbfjpaaVy
import Derived.OwnWalk
import Derived.Handy
namespace Go.Proofs.Ytnkcbkfccbfjpaa.XxhW
open Go.RowKit Go.Proofs.Ytnkcbkfccbfjpaa.QVolumesCuts Go.Proofs.YtnkcbkfccbfjpaaW.PrintWords Go.Proofs.YtnkcbkfccbfjpaaW.PrintLast Go.Proofs.YtnkcbkfccbfjpaaW.PrintMore
set_option linter.unusedVariables false
set_option linter.unusedSimpArgs false
theorem reads_pre {w : World} {A : Option Addr} {l : List Int} (h : ReadsInt w .u8 A l.length l) (m : Nat) (hm : m ≤ l.length) : ReadsInt w .u8 A m (l.take m) := by
  have hlt : (l.take m).length = m := by rw [List.length_take]; omega
  refine ⟨hlt, by have := h.2.1; omega, fun h0 => ?_⟩
  obtain ⟨ad, e, hx⟩ := h.2.2 (by omega)
  refine ⟨ad, e, fun j hj => ?_⟩
  rw [hx j (by omega), List.getD_eq_getElem?_getD, List.getD_eq_getElem?_getD, List.getElem?_take, if_pos hj]
set_option maxHeartbeats 4000000 in
set_option maxRecDepth 100000 in
theorem get_magic (A : Option Addr) (c : Nat) (b : List Int) (w : World) (hr : ReadsInt w .u8 A b.length b) (hc : b.length ≤ c) (h64 : 64 ≤ b.length) (hm : ((strOfNums (b.take 8)).toList == [83, 65, 84, 67, 72, 86, 79, 76]) = false) :
    Calls Try.prog 67 #[.slice A b.length c] w fun e w' => (e = .returned (.tuple #[.agg #[.int .u64 0, .int .i64 0, .int .i64 0, .bool false, .int .i64 0, .int .i64 0, .int .i64 0, .slice none 0 0], .int .i64 270])) ∧ Below w.heap.size w w' := by
  have d0 : decide ((b.length : Int) < 64) = false := decide_eq_false (by omega)
  have d1 : (8 : Int) ≤ (c : Int) := by omega
  have kA : ∀ W : World, Below w.heap.size w W → (convert 22 9 (.slice A 8 c)).run Try.prog W = .ok (.string (strOfNums (b.take 8))) W := fun W h => string_of_reads Try.underlying22 Try.underlying5 Try.underlying9 ((reads_pre hr 8 (by omega)).below h)
  clear hr
  go_enter Try.func67, Try.ntmps67
  go_upto_region 1 with fail
  have kB := kA _ (below_alloc (Below.refl _ _) (.cells #[.int .u64 0, .int .i64 0, .int .i64 0, .bool false, .int .i64 0, .int .i64 0, .int .i64 0, .slice none 0 0] 88))
  clear kA
  go_wp2_with fail
  go_returns
  exact ⟨rfl, below_alloc (Below.refl _ _) _⟩
/-! ### the head's sum -/
set_option maxHeartbeats 8000000 in
set_option maxRecDepth 100000 in
theorem get_head (A : Option Addr) (c : Nat) (b : List Int) (w : World) (hr : ReadsInt w .u8 A b.length b) (hc : b.length ≤ c) (h64 : 64 ≤ b.length) (hl : b.length ≤ 100000000) (hb : ∀ q, 0 ≤ b.getD q 0 ∧ b.getD q 0 < 256) (hm : ((strOfNums (b.take 8)).toList == [83, 65, 84, 67, 72, 86, 79, 76]) = true)
    (hne : (numP (b.drop 60) 4 == crc (b.take 60)) = false) :
    Calls Try.prog 67 #[.slice A b.length c] w fun e w' => (e = .returned (.tuple #[.agg #[.int .u64 0, .int .i64 0, .int .i64 0, .bool false, .int .i64 0, .int .i64 0, .int .i64 0, .slice none 0 0], .int .i64 270])) ∧ Below w.heap.size w w' := by
  obtain ⟨i0, hi, _, hsz, _⟩ := info_parts info5
  have hbd : ∀ m q, 0 ≤ (b.drop m).getD q 0 ∧ (b.drop m).getD q 0 < 256 := fun m q => by
    rw [List.getD_eq_getElem?_getD, List.getElem?_drop, ← List.getD_eq_getElem?_getD]
    exact hb _
  obtain ⟨A24, k24, r24, l24⟩ := print_drop_of (P := Try.prog) (Value.int .u8) 0 22 5 .i64 Try.underlying22 hi hsz A c b 24 (by decide) (by omega) hc
  obtain ⟨A60, k60, r60, l60⟩ := print_drop_of (P := Try.prog) (Value.int .u8) 0 22 5 .i64 Try.underlying22 hi hsz A c b 60 (by decide) (by omega) hc
  have kT := cut_to (P := Try.prog) 22 5 .i64 Try.underlying22 hi A b.length c 60 (by decide) (by omega) hc
  rw [show ((24 : Int)).toNat = 24 from rfl] at k24 r24 l24
  rw [show ((60 : Int)).toNat = 60 from rfl] at k60 r60 l60 kT
  have HR := Aside0.mk hr
  have n24 : volumes_number.f 9 (b.drop 24) 4 = some (numP (b.drop 24) 4) := nm_f 9 (b.drop 24) 4 (by decide) (by rw [List.length_drop]; omega) (hbd 24) (by decide)
  have n60 : volumes_number.f 9 (b.drop 60) 4 = some (numP (b.drop 60) 4) := nm_f 9 (b.drop 60) 4 (by decide) (by rw [List.length_drop]; omega) (hbd 60) (by decide)
  have nT : gzip_Sum.f 1000 (b.take 60) = some (crc (b.take 60)) := gz_f 1000 _ (by rw [List.length_take]; omega) (by rw [List.length_take]; omega)
  have hTl : (b.take 60).length = 60 := by rw [List.length_take]; omega
  have hcr := crc_in (b.take 60)
  obtain ⟨b24, e24⟩ : ∃ x, x = b.drop 24 := ⟨_, rfl⟩
  obtain ⟨b60, e60⟩ : ∃ x, x = b.drop 60 := ⟨_, rfl⟩
  obtain ⟨s60, es60⟩ : ∃ x, x = crc (b.take 60) := ⟨_, rfl⟩
  rw [← e24] at k24 r24 l24 n24
  rw [← e60] at k60 r60 l60 n60 hne
  have H24 := Aside0.mk (fun (W : World) (h : Below w.heap.size w W) => volumes_number.calls 9 A24 (c - 24) b24 4 _ W (Kd.C_of_reads (enc := Value.int .u8) (d := (0 : Int)) (h1 := fun _ => rfl) (r24 W (HR.out.below h))) l24 n24)
  have H60 := Aside0.mk (fun (W : World) (h : Below w.heap.size w W) => volumes_number.calls 9 A60 (c - 60) b60 4 _ W (Kd.C_of_reads (enc := Value.int .u8) (d := (0 : Int)) (h1 := fun _ => rfl) (r60 W (HR.out.below h))) l60 n60)
  have HT : Aside0 (∀ (W : World), Below w.heap.size w W → Calls Try.prog 80 #[.slice A 60 c] W fun e w' => e = .returned (.int .u32 s60) ∧ Drawn0 W w') := ⟨fun W h => by
    have hh := gzip_Sum.calls 1000 A c (b.take 60) _ W (by have := reads_pre (HR.out.below h) 60 (by omega); exact Kd.C_of_reads (enc := Value.int .u8) (d := (0 : Int)) (h1 := fun _ => rfl) (by rw [hTl]; exact this)) (by omega) nT
    rw [hTl, ← es60] at hh
    exact hh⟩
  rw [← es60] at hne hcr
  have d0 : decide ((b.length : Int) < 64) = false := decide_eq_false (by omega)
  have d1 : (8 : Int) ≤ (c : Int) := by omega
  have kA : ∀ W : World, Below w.heap.size w W → (convert 22 9 (.slice A 8 c)).run Try.prog W = .ok (.string (strOfNums (b.take 8))) W := fun W h => string_of_reads Try.underlying22 Try.underlying5 Try.underlying9 ((reads_pre hr 8 (by omega)).below h)
  have kB := kA _ (below_alloc (Below.refl _ _) (.cells #[.int .u64 0, .int .i64 0, .int .i64 0, .bool false, .int .i64 0, .int .i64 0, .int .i64 0, .slice none 0 0] 88))
  have hcm : IntKind.u64.wrap s60 = s60 := wrap_u64 ⟨hcr.1, by have := hcr.2; omega⟩
  have hne2 : (numP b60 4 != s60) = true := by rw [bne, hne]; rfl
  clear hr kA r24 r60 n24 n60 nT hTl e24 e60 es60 hbd hi hsz hb l24 l60
  go_enter Try.func67, Try.ntmps67
  go_upto_region 4 with (go_at_call 90; refine (H24.out _ (below_alloc (Below.refl _ _) _)).mono ?_; rintro e w2 ⟨rfl, ⟨m2, rfl⟩⟩)
  clear kB H24
  have hg := heap_alloc_new w (.cells #[.int .u64 0, .int .i64 0, .int .i64 0, .bool false, .int .i64 0, .int .i64 0, .int .i64 0, .slice none 0 0] 88)
  have HB := Aside0.mk (pw_below_drewN (below_alloc (Below.refl w.heap.size w) (.cells #[.int .u64 0, .int .i64 0, .int .i64 0, .bool false, .int .i64 0, .int .i64 0, .int .i64 0, .slice none 0 0] 88)) m2)
  have HG := Aside0.mk (show ((w.alloc (.cells #[.int .u64 0, .int .i64 0, .int .i64 0, .bool false, .int .i64 0, .int .i64 0, .int .i64 0, .slice none 0 0] 88)).drewN m2).heap[w.heap.size]? = some (.cells #[.int .u64 0, .int .i64 0, .int .i64 0, .bool false, .int .i64 0, .int .i64 0, .int .i64 0, .slice none 0 0] 88 (0, 0)) from hg)
  generalize (w.alloc (.cells #[.int .u64 0, .int .i64 0, .int .i64 0, .bool false, .int .i64 0, .int .i64 0, .int .i64 0, .slice none 0 0] 88)).drewN m2 = wr at HB HG ⊢
  clear hg
  have HBd := Aside0.mk (show Below w.heap.size w wr.drew from below_drew HB.out)
  have HGd := Aside0.mk (show wr.drew.heap[w.heap.size]? = some (.cells #[.int .u64 0, .int .i64 0, .int .i64 0, .bool false, .int .i64 0, .int .i64 0, .int .i64 0, .slice none 0 0] 88 (0, 0)) from HG.out)
  refine start_ (n := 18) (S := fun w' => True) (ds := []) #[false, false, false, false, false, false, false, false, false, false, false, false, false, false, false, false, false, false] (by kernel_rfl) rfl rfl trivial (fun hHeld => ?_)
  generalize wr.drew = wd at HBd HGd hHeld ⊢
  refine pure_ (i := 0) (N := some 19) (v := ?_) (a' := ?_) #[true, false, false, false, false, false, false, false, false, false, false, false, false, false, false, false, false, false] rfl rfl (by kernel_rfl) (fun _ _ _ h => h) (Or.inl ⟨by rfl, ?_⟩) ?_ ?_
  rotate_left
  · intro w'
    go_simp
    with_reducible rfl
  rotate_left
  · simp only [Act.put, List.setIfInBounds_toArray, List.set_cons_zero, List.set_cons_succ, i64_w, i32_w]
    rfl
  refine pure_ (i := 1) (N := some 20) (v := ?_) (a' := ?_) #[true, true, false, false, false, false, false, false, false, false, false, false, false, false, false, false, false, false] rfl rfl (by kernel_rfl) (fun _ _ _ h => h) (Or.inl ⟨by rfl, ?_⟩) ?_ ?_
  rotate_left
  · intro w'
    go_simp
    with_reducible rfl
  rotate_left
  · simp only [Act.put, List.setIfInBounds_toArray, List.set_cons_zero, List.set_cons_succ, i64_w, i32_w]
    rfl
  refine pure_ (i := 3) (N := some 22) (v := ?_) (a' := ?_) #[true, true, false, true, false, false, false, false, false, false, false, false, false, false, false, false, false, false] rfl rfl (by kernel_rfl) (fun _ _ _ h => h) (Or.inl ⟨by rfl, ?_⟩) ?_ ?_
  rotate_left
  · intro w'
    go_simp
    with_reducible rfl
  rotate_left
  · simp only [Act.put, List.setIfInBounds_toArray, List.set_cons_zero, List.set_cons_succ, i64_w, i32_w]
    rfl
  refine pure_ (i := 4) (N := some 23) (v := ?_) (a' := ?_) #[true, true, false, true, true, false, false, false, false, false, false, false, false, false, false, false, false, false] rfl rfl (by kernel_rfl) (fun _ _ _ h => h) (Or.inl ⟨by rfl, ?_⟩) ?_ ?_
  rotate_left
  · intro w'
    go_simp
    with_reducible rfl
  rotate_left
  · simp only [Act.put, List.setIfInBounds_toArray, List.set_cons_zero, List.set_cons_succ, i64_w, i32_w]
    rfl
  refine one_ (i := 2) (N := some 21) #[true, true, true, true, true, false, false, false, false, false, false, false, false, false, false, false, false, false] rfl rfl (by kernel_rfl) (by decide) (fun K hK => ?_)
  refine goes_ Try.func90 (by kernel_rfl) rfl #[.slice A60 b60.length (c - 60), .int .i64 4] (by rfl) rfl rfl (by simp only [List.map_toArray, List.map_cons, List.map_nil]; rfl) ?_
  with_reducible refine ((H60.out wd HBd.out)).mono ?_
  rintro e w3 ⟨rfl, ⟨m3, rfl⟩⟩
  refine ⟨_, rfl, ?_⟩
  refine hK.out _ _ trivial (fun hHeld => ?_)
  clear hK K
  refine norm_ (a' := ?_) ?_ ?_
  rotate_left
  · show Act.put _ (some 21) _ = _
    simp only [Act.put, List.setIfInBounds_toArray, List.set_cons_zero, List.set_cons_succ, i64_w, i32_w]
    rfl
  refine one_ (i := 5) (N := some 24) #[true, true, true, true, true, true, false, false, false, false, false, false, false, false, false, false, false, false] rfl rfl (by kernel_rfl) (by decide) (fun K hK => ?_)
  refine goes_ Try.func80 (by kernel_rfl) rfl #[.slice A 60 c] (by rfl) rfl rfl (by simp only [List.map_toArray, List.map_cons, List.map_nil]; rfl) ?_
  with_reducible refine ((HT.out (wd.drewN m3) (pw_below_drewN HBd.out m3))).mono ?_
  rintro e w4 ⟨rfl, ⟨m4, rfl⟩⟩
  refine ⟨_, rfl, ?_⟩
  refine hK.out _ _ trivial (fun hHeld => ?_)
  clear hK K
  refine norm_ (a' := ?_) ?_ ?_
  rotate_left
  · show Act.put _ (some 24) _ = _
    simp only [Act.put, List.setIfInBounds_toArray, List.set_cons_zero, List.set_cons_succ, i64_w, i32_w]
    rfl
  refine pure_ (i := 6) (N := some 25) (v := ?_) (a' := ?_) #[true, true, true, true, true, true, true, false, false, false, false, false, false, false, false, false, false, false] rfl rfl (by kernel_rfl) (fun _ _ _ h => h) (Or.inl ⟨by rfl, ?_⟩) ?_ ?_
  rotate_left
  · intro w'
    go_simp
    with_reducible rfl
  rotate_left
  · simp only [Act.put, List.setIfInBounds_toArray, List.set_cons_zero, List.set_cons_succ, i64_w, i32_w]
    rfl
  refine pure_ (i := 7) (N := some 26) (v := ?_) (a' := ?_) #[true, true, true, true, true, true, true, true, false, false, false, false, false, false, false, false, false, false] rfl rfl (by kernel_rfl) (fun _ _ _ h => h) (Or.inl ⟨by rfl, ?_⟩) ?_ ?_
  rotate_left
  · intro w'
    go_simp
    with_reducible rfl
  rotate_left
  · simp only [Act.put, List.setIfInBounds_toArray, List.set_cons_zero, List.set_cons_succ, i64_w, i32_w]
    rfl
  refine pure_ (i := 8) (N := some 27) (v := ?_) (a' := ?_) #[true, true, true, true, true, true, true, true, true, false, false, false, false, false, false, false, false, false] rfl rfl (by kernel_rfl) (fun _ _ _ h => h) (Or.inl ⟨by rfl, ?_⟩) ?_ ?_
  rotate_left
  · intro w'
    go_simp
    with_reducible rfl
  rotate_left
  · simp only [Act.put, List.setIfInBounds_toArray, List.set_cons_zero, List.set_cons_succ, i64_w, i32_w]
    rfl
  refine pure_ (i := 9) (N := some 28) (v := undef) (a' := ?_) #[true, true, true, true, true, true, true, true, true, true, false, false, false, false, false, false, false, false] rfl rfl (by kernel_rfl) (fun _ _ _ h => h) (Or.inr ⟨by rfl, rfl⟩) ?_ ?_
  rotate_left
  · simp only [Act.put, List.setIfInBounds_toArray, List.set_cons_zero, List.set_cons_succ, i64_w, i32_w]
    rfl
  refine pure_ (i := 10) (N := some 29) (v := undef) (a' := ?_) #[true, true, true, true, true, true, true, true, true, true, true, false, false, false, false, false, false, false] rfl rfl (by kernel_rfl) (fun _ _ _ h => h) (Or.inr ⟨by rfl, rfl⟩) ?_ ?_
  rotate_left
  · simp only [Act.put, List.setIfInBounds_toArray, List.set_cons_zero, List.set_cons_succ, i64_w, i32_w]
    rfl
  refine pure_ (i := 11) (N := some 30) (v := undef) (a' := ?_) #[true, true, true, true, true, true, true, true, true, true, true, true, false, false, false, false, false, false] rfl rfl (by kernel_rfl) (fun _ _ _ h => h) (Or.inr ⟨by rfl, rfl⟩) ?_ ?_
  rotate_left
  · simp only [Act.put, List.setIfInBounds_toArray, List.set_cons_zero, List.set_cons_succ, i64_w, i32_w]
    rfl
  refine pure_ (i := 12) (N := some 31) (v := undef) (a' := ?_) #[true, true, true, true, true, true, true, true, true, true, true, true, true, false, false, false, false, false] rfl rfl (by kernel_rfl) (fun _ _ _ h => h) (Or.inr ⟨by rfl, rfl⟩) ?_ ?_
  rotate_left
  · simp only [Act.put, List.setIfInBounds_toArray, List.set_cons_zero, List.set_cons_succ, i64_w, i32_w]
    rfl
  refine pure_ (i := 13) (N := some 32) (v := ?_) (a' := ?_) #[true, true, true, true, true, true, true, true, true, true, true, true, true, true, false, false, false, false] rfl rfl (by kernel_rfl) (fun _ _ _ h => h) (Or.inl ⟨by rfl, ?_⟩) ?_ ?_
  rotate_left
  · intro w'
    go_simp
    with_reducible rfl
  rotate_left
  · simp only [Act.put, List.setIfInBounds_toArray, List.set_cons_zero, List.set_cons_succ, i64_w, i32_w]
    rfl
  refine pure_ (i := 14) (N := some 33) (v := ?_) (a' := ?_) #[true, true, true, true, true, true, true, true, true, true, true, true, true, true, true, false, false, false] rfl rfl (by kernel_rfl) (fun _ _ _ h => h) (Or.inl ⟨by rfl, ?_⟩) ?_ ?_
  rotate_left
  · intro w'
    go_simp
    with_reducible rfl
  rotate_left
  · simp only [Act.put, List.setIfInBounds_toArray, List.set_cons_zero, List.set_cons_succ, i64_w, i32_w]
    rfl
  refine pure_ (i := 15) (N := some 34) (v := undef) (a' := ?_) #[true, true, true, true, true, true, true, true, true, true, true, true, true, true, true, true, false, false] rfl rfl (by kernel_rfl) (fun _ _ _ h => h) (Or.inr ⟨by rfl, rfl⟩) ?_ ?_
  rotate_left
  · simp only [Act.put, List.setIfInBounds_toArray, List.set_cons_zero, List.set_cons_succ, i64_w, i32_w]
    rfl
  refine pure_ (i := 16) (N := some 35) (v := undef) (a' := ?_) #[true, true, true, true, true, true, true, true, true, true, true, true, true, true, true, true, true, false] rfl rfl (by kernel_rfl) (fun _ _ _ h => h) (Or.inr ⟨by rfl, rfl⟩) ?_ ?_
  rotate_left
  · simp only [Act.put, List.setIfInBounds_toArray, List.set_cons_zero, List.set_cons_succ, i64_w, i32_w]
    rfl
  refine pure_ (i := 17) (N := some 36) (v := ?_) (a' := ?_) #[true, true, true, true, true, true, true, true, true, true, true, true, true, true, true, true, true, true] rfl rfl (by kernel_rfl) (fun _ _ _ h => h) (Or.inl ⟨by rfl, ?_⟩) ?_ ?_
  rotate_left
  · intro w'
    go_simp
    with_reducible rfl
  rotate_left
  · simp only [Act.put, List.setIfInBounds_toArray, List.set_cons_zero, List.set_cons_succ, i64_w, i32_w]
    rfl
  refine done_ (by kernel_rfl) ?_
  have HBq := Aside0.mk (pw_below_drewN (pw_below_drewN HBd.out m3) m4)
  have HGq := Aside0.mk (show ((wd.drewN m3).drewN m4).heap[w.heap.size]? = some (.cells #[.int .u64 0, .int .i64 0, .int .i64 0, .bool false, .int .i64 0, .int .i64 0, .int .i64 0, .slice none 0 0] 88 (0, 0)) from HGd.out)
  generalize (wd.drewN m3).drewN m4 = wq at HBq HGq ⊢
  have y0 : wq.cell? ⟨w.heap.size, 0, none⟩ = some (.int .u64 0) := cell_of_row wq _ 0 _ 88 (0, 0) HGq.out
  have z0 := blk_frozen HGq.out 0
  have y1 : wq.cell? ⟨w.heap.size, 1, none⟩ = some (.int .i64 0) := cell_of_row wq _ 1 _ 88 (0, 0) HGq.out
  have z1 := blk_frozen HGq.out 1
  have y2 : wq.cell? ⟨w.heap.size, 2, none⟩ = some (.int .i64 0) := cell_of_row wq _ 2 _ 88 (0, 0) HGq.out
  have z2 := blk_frozen HGq.out 2
  have y3 : wq.cell? ⟨w.heap.size, 3, none⟩ = some (.bool false) := cell_of_row wq _ 3 _ 88 (0, 0) HGq.out
  have z3 := blk_frozen HGq.out 3
  have y4 : wq.cell? ⟨w.heap.size, 4, none⟩ = some (.int .i64 0) := cell_of_row wq _ 4 _ 88 (0, 0) HGq.out
  have z4 := blk_frozen HGq.out 4
  have y5 : wq.cell? ⟨w.heap.size, 5, none⟩ = some (.int .i64 0) := cell_of_row wq _ 5 _ 88 (0, 0) HGq.out
  have z5 := blk_frozen HGq.out 5
  have y6 : wq.cell? ⟨w.heap.size, 6, none⟩ = some (.int .i64 0) := cell_of_row wq _ 6 _ 88 (0, 0) HGq.out
  have z6 := blk_frozen HGq.out 6
  have y7 : wq.cell? ⟨w.heap.size, 7, none⟩ = some (.slice none 0 0) := cell_of_row wq _ 7 _ 88 (0, 0) HGq.out
  have z7 := blk_frozen HGq.out 7
  go_wp2_with fail
  have b0 := blk_set HGq.out 0 (.int .u64 0)
  have b1 := blk_set b0 1 (.int .i64 0)
  have b2 := blk_set b1 2 (.int .i64 0)
  have b3 := blk_set b2 3 (.bool false)
  have b4 := blk_set b3 4 (.int .i64 0)
  have b5 := blk_set b4 5 (.int .i64 0)
  have b6 := blk_set b5 6 (.int .i64 0)
  have b7 := blk_set b6 7 (.slice none 0 0)
  have HBz := Aside0.mk (((((((((((Fr.of_below HBq.out (fun i => i ≠ w.heap.size)).then (Fr.set ⟨w.heap.size, 0, none⟩ (.int .u64 0))).then (Fr.set ⟨w.heap.size, 1, none⟩ (.int .i64 0))).then (Fr.set ⟨w.heap.size, 2, none⟩ (.int .i64 0))).then (Fr.set ⟨w.heap.size, 3, none⟩ (.bool false))).then (Fr.set ⟨w.heap.size, 4, none⟩ (.int .i64 0))).then (Fr.set ⟨w.heap.size, 5, none⟩ (.int .i64 0))).then (Fr.set ⟨w.heap.size, 6, none⟩ (.int .i64 0))).then (Fr.set ⟨w.heap.size, 7, none⟩ (.slice none 0 0)))).below (B := w.heap.size) (fun i hi => ⟨hi, by omega⟩))
  have HGz := Aside0.mk (show ((((((((wq.setCell ⟨w.heap.size, 0, none⟩ (.int .u64 0)).setCell ⟨w.heap.size, 1, none⟩ (.int .i64 0)).setCell ⟨w.heap.size, 2, none⟩ (.int .i64 0)).setCell ⟨w.heap.size, 3, none⟩ (.bool false)).setCell ⟨w.heap.size, 4, none⟩ (.int .i64 0)).setCell ⟨w.heap.size, 5, none⟩ (.int .i64 0)).setCell ⟨w.heap.size, 6, none⟩ (.int .i64 0)).setCell ⟨w.heap.size, 7, none⟩ (.slice none 0 0)).heap[w.heap.size]? = some (.cells #[.int .u64 0, .int .i64 0, .int .i64 0, .bool false, .int .i64 0, .int .i64 0, .int .i64 0, .slice none 0 0] 88 (0, 0)) from b7)
  clear b0 b1 b2 b3 b4 b5 b6 b7 y0 y1 y2 y3 y4 y5 y6 y7 z0 z1 z2 z3 z4 z5 z6 z7
  generalize ((((((((wq.setCell ⟨w.heap.size, 0, none⟩ (.int .u64 0)).setCell ⟨w.heap.size, 1, none⟩ (.int .i64 0)).setCell ⟨w.heap.size, 2, none⟩ (.int .i64 0)).setCell ⟨w.heap.size, 3, none⟩ (.bool false)).setCell ⟨w.heap.size, 4, none⟩ (.int .i64 0)).setCell ⟨w.heap.size, 5, none⟩ (.int .i64 0)).setCell ⟨w.heap.size, 6, none⟩ (.int .i64 0)).setCell ⟨w.heap.size, 7, none⟩ (.slice none 0 0)) = wz at HBz HGz ⊢
  have y0 : wz.cell? ⟨w.heap.size, 0, none⟩ = some (.int .u64 0) := cell_of_row wz _ 0 _ 88 (0, 0) HGz.out
  have y1 : wz.cell? ⟨w.heap.size, 1, none⟩ = some (.int .i64 0) := cell_of_row wz _ 1 _ 88 (0, 0) HGz.out
  have y2 : wz.cell? ⟨w.heap.size, 2, none⟩ = some (.int .i64 0) := cell_of_row wz _ 2 _ 88 (0, 0) HGz.out
  have y3 : wz.cell? ⟨w.heap.size, 3, none⟩ = some (.bool false) := cell_of_row wz _ 3 _ 88 (0, 0) HGz.out
  have y4 : wz.cell? ⟨w.heap.size, 4, none⟩ = some (.int .i64 0) := cell_of_row wz _ 4 _ 88 (0, 0) HGz.out
  have y5 : wz.cell? ⟨w.heap.size, 5, none⟩ = some (.int .i64 0) := cell_of_row wz _ 5 _ 88 (0, 0) HGz.out
  have y6 : wz.cell? ⟨w.heap.size, 6, none⟩ = some (.int .i64 0) := cell_of_row wz _ 6 _ 88 (0, 0) HGz.out
  have y7 : wz.cell? ⟨w.heap.size, 7, none⟩ = some (.slice none 0 0) := cell_of_row wz _ 7 _ 88 (0, 0) HGz.out
  (try simp only [Exit.inBlock, Exit.then])
  refine bodyPost_ret (by simp [results, Try.results67, go_sem, y0, y1, y2, y3, y4, y5, y6, y7]; try rfl) rfl ?_
  exact ⟨rfl, HBz.out⟩
end Go.Proofs.Ytnkcbkfccbfjpaa.XxhW
