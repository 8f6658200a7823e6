/- Contracts of lz's newPlayer and plain, and of the reader's more. Conditions: lengths below 2^40, bytes are bytes. -/
import Derived.Test.YtnomebkdhjigjaaLa
namespace Go.Proofs.Ytnomebkdhjigjaa.W
open Go.RowKit Go.Proofs.YtnomebkdhjigjaaW.PrintWords Go.Proofs.YtnomebkdhjigjaaW.PrintLast Go.Proofs.YtnomebkdhjigjaaW.PrintMore
set_option linter.unusedVariables false
set_option linter.unusedSimpArgs false
def Byt (l : List Int) : Prop := ∀ i, 0 ≤ l.getD i 0 ∧ l.getD i 0 < 256
theorem Byt.drop {l : List Int} (h : Byt l) (k : Nat) : Byt (l.drop k) := fun i => by
  have e : (l.drop k).getD i 0 = l.getD (k + i) 0 := by simp [List.getD_eq_getElem?_getD, List.getElem?_drop]
  rw [e]
  exact h _
set_option maxRecDepth 100000 in
theorem plain_calls (g B : Nat) (all : List Int) (va : Value) (b : Nat) (m : Int) (w : World) (h : Pl w B g all va b m) (hb : b ≤ all.length) (hl : all.length ≤ 140737488355327) :
    Calls Try.prog 74 #[.pointer (some ⟨g, 0, none⟩)] w fun e w' => ∃ A c, e = .returned (.slice A (all.drop b).length c) ∧ w'.ownsRow w.heap.size 5 1 (.slice A (all.drop b).length c) (all.drop b).length (nums .u8 (all.drop b)) ∧ Below w.heap.size w w' := by
  obtain ⟨A, c, rfl, hr, hc⟩ := own_reads' h.o
  have x0 := (h.d.at 0 _ rfl).1
  have x1 := (h.d.at 1 _ rfl).1
  obtain ⟨i05, hi05, _, hsz5, _⟩ := info_parts info5
  obtain ⟨A1, hcut, hA1⟩ := print_cut (P := Try.prog) 22 5 .i64 Try.underlying22 hi05 hsz5 A all.length c b hb
  obtain ⟨L, eL⟩ : ∃ L, L = all.drop b := ⟨_, rfl⟩
  have eLl : all.length - b = L.length := by rw [eL, List.length_drop]
  have hr1 := hA1 w .u8 all hc hr
  rw [eLl, ← eL] at hr1
  rw [eLl] at hcut
  rw [← eL]
  have hcut' : ∀ W : World, (Instr.slice 22 (.slice A all.length c) (some (.int .i64 (b : Int))) none none).run Try.prog W = .ok (.slice A1 L.length (c - b)) W := hcut
  have HL := Aside0.mk (show L.length ≤ 140737488355327 by omega)
  have HR1 := Aside0.mk hr1
  clear h hr hc hA1 eL eLl hcut hi05 hsz5 hr1
  go_enter Try.func74, Try.ntmps74
  go_upto_region 1 with fail
  have x0' : w.drew.cell? ⟨g, 0, none⟩ = some (.slice A all.length c) := x0
  have x1' : w.drew.cell? ⟨g, 1, none⟩ = some (.int .i64 b) := x1
  have HR1d := Aside0.mk (show ReadsInt w.drew .u8 A1 L.length L from HR1.out)
  have HBd := Aside0.mk (show Below w.heap.size w w.drew from (Below.refl _ _).drew)
  refine start_ (n := 11) (S := fun w' => w'.cell? ⟨g, 0, none⟩ = some (.slice A all.length c) ∧ w'.cell? ⟨g, 1, none⟩ = some (.int .i64 b)) (ds := [9]) #[false, false, false, false, false, false, false, false, false, false, false] (by kernel_rfl) rfl rfl ⟨x0', x1'⟩ (fun hHeld => ?_)
  generalize w.drew = wd at x0' x1' HR1d HBd hHeld ⊢
  refine pure_ (i := 0) (N := some 3) (v := ?_) (a' := ?_) #[true, false, false, false, false, false, false, false, false, false, false] rfl rfl (by kernel_rfl) (fun _ _ _ h => h) (Or.inl ⟨by rfl, ?_⟩) ?_ ?_
  rotate_left
  · intro w'
    go_simp
    with_reducible rfl
  rotate_left
  · simp only [Act.put, List.setIfInBounds_toArray, List.set_cons_zero, List.set_cons_succ, i64_w, i32_w]
    rfl
  refine pure_ (i := 1) (N := some 4) (v := ?_) (a' := ?_) #[true, true, false, false, false, false, false, false, false, false, false] rfl rfl (by kernel_rfl) (fun _ _ _ h => h) (Or.inl ⟨by rfl, ?_⟩) ?_ ?_
  rotate_left
  · intro w'
    go_simp
    with_reducible rfl
  rotate_left
  · simp only [Act.put, List.setIfInBounds_toArray, List.set_cons_zero, List.set_cons_succ, i64_w, i32_w]
    rfl
  refine pure_ (i := 2) (N := some 5) (v := ?_) (a' := ?_) #[true, true, true, false, false, false, false, false, false, false, false] rfl rfl (by kernel_rfl) (fun _ _ _ h => h) (Or.inl ⟨by rfl, ?_⟩) ?_ ?_
  rotate_left
  · intro w'
    go_simp
    with_reducible rfl
  rotate_left
  · simp only [Act.put, List.setIfInBounds_toArray, List.set_cons_zero, List.set_cons_succ, i64_w, i32_w]
    rfl
  refine pure_ (i := 4) (N := some 7) (v := ?_) (a' := ?_) #[true, true, true, false, true, false, false, false, false, false, false] rfl rfl (by kernel_rfl) (fun _ _ _ h => h) (Or.inl ⟨by rfl, ?_⟩) ?_ ?_
  rotate_left
  · intro w'
    go_simp
    with_reducible rfl
  rotate_left
  · simp only [Act.put, List.setIfInBounds_toArray, List.set_cons_zero, List.set_cons_succ, i64_w, i32_w]
    rfl
  refine pure_ (i := 5) (N := some 8) (v := ?_) (a' := ?_) #[true, true, true, false, true, true, false, false, false, false, false] rfl rfl (by kernel_rfl) (fun _ _ _ h => h) (Or.inl ⟨by rfl, ?_⟩) ?_ ?_
  rotate_left
  · intro w'
    go_simp
    with_reducible rfl
  rotate_left
  · simp only [Act.put, List.setIfInBounds_toArray, List.set_cons_zero, List.set_cons_succ, i64_w, i32_w]
    rfl
  refine pure_ (i := 6) (N := some 9) (v := ?_) (a' := ?_) #[true, true, true, false, true, true, true, false, false, false, false] rfl rfl (by kernel_rfl) (fun _ _ _ h => h) (Or.inl ⟨by rfl, ?_⟩) ?_ ?_
  rotate_left
  · intro w'
    go_simp
    with_reducible rfl
  rotate_left
  · simp only [Act.put, List.setIfInBounds_toArray, List.set_cons_zero, List.set_cons_succ, i64_w, i32_w]
    rfl
  refine take_ (i := 3) (N := some 6) (v := ?_) (a' := ?_) #[true, true, true, true, true, true, true, false, false, false, false] rfl rfl (by kernel_rfl) (fun _ _ _ h => h) (Or.inl ⟨by rfl, ?_⟩) hHeld ?_ ?_
  rotate_left
  · rintro w' ⟨s0, s1⟩
    go_simp
    with_reducible rfl
  rotate_left
  · simp only [Act.put, List.setIfInBounds_toArray, List.set_cons_zero, List.set_cons_succ, i64_w, i32_w]
    rfl
  refine take_ (i := 7) (N := some 10) (v := ?_) (a' := ?_) #[true, true, true, true, true, true, true, true, false, false, false] rfl rfl (by kernel_rfl) (fun _ _ _ h => h) (Or.inl ⟨by rfl, ?_⟩) hHeld ?_ ?_
  rotate_left
  · rintro w' ⟨s0, s1⟩
    go_simp
    with_reducible rfl
  rotate_left
  · simp only [Act.put, List.setIfInBounds_toArray, List.set_cons_zero, List.set_cons_succ, i64_w, i32_w]
    rfl
  refine pure_ (i := 8) (N := some 11) (v := ?_) (a' := ?_) #[true, true, true, true, true, true, true, true, true, false, false] rfl rfl (by kernel_rfl) (fun _ _ _ h => h) (Or.inl ⟨by rfl, ?_⟩) ?_ ?_
  rotate_left
  · intro w'
    go_simp
    with_reducible rfl
  rotate_left
  · simp only [Act.put, List.setIfInBounds_toArray, List.set_cons_zero, List.set_cons_succ, i64_w, i32_w]
    rfl
  refine last_ (i := 9) (N := some 12) #[true, true, true, true, true, true, true, true, true, true, false] rfl rfl (by kernel_rfl) (by decide) (fun K hK => ?_)
  refine goes_ Try.func52 (by kernel_rfl) rfl #[.slice A1 L.length (c - b)] (by rfl) rfl rfl (by simp only [List.map_toArray, List.map_cons, List.map_nil]; rfl) ?_
  with_reducible refine (clone_any A1 (c - b) L wd HR1d.out HL.out).mono ?_
  rintro e w5 ⟨A5, c5, rfl, ho5, hb5⟩
  refine ⟨_, rfl, ?_⟩
  have HO5 := Aside0.mk ho5
  have HB5 := Aside0.mk hb5
  clear ho5 hb5
  refine hK.out _ _ ?_
  clear hK K
  refine norm_ (a' := ?_) ?_ ?_
  rotate_left
  · show Act.put _ (some 12) _ = _
    simp only [Act.put, List.setIfInBounds_toArray, List.set_cons_zero, List.set_cons_succ, i64_w, i32_w]
    rfl
  refine pure_ (i := 10) (N := some 2) (v := ?_) (a' := ?_) #[true, true, true, true, true, true, true, true, true, true, true] rfl rfl (by kernel_rfl) (fun _ _ _ h => h) (Or.inl ⟨by rfl, ?_⟩) ?_ ?_
  rotate_left
  · intro w'
    go_simp
    with_reducible rfl
  rotate_left
  · simp only [Act.put, List.setIfInBounds_toArray, List.set_cons_zero, List.set_cons_succ, i64_w, i32_w]
    rfl
  refine done_ (by kernel_rfl) ?_
  go_wp2
  go_ret
  exact ⟨A5, c5, rfl, own_lower HO5.out HBd.out.size, HBd.out.trans (HB5.out.mono HBd.out.size)⟩
/-- What of the bytes ahead counts. -/
def window (l : List Int) : List Int := if 65536 ≤ l.length then l.drop (l.length - 65535) else l
theorem window_len (l : List Int) : (window l).length ≤ 65535 ∧ (window l).length ≤ l.length := by
  unfold window
  split
  · rw [List.length_drop]; omega
  · omega
set_option maxHeartbeats 1000000 in
theorem newPlayer_calls (A : Option Addr) (c : Nat) (l : List Int) (m : Int) (w : World) (hr : ReadsInt w .u8 A l.length l) (hc : l.length ≤ c) (hl : l.length ≤ 140737488355327) :
    Calls Try.prog 70 #[.slice A l.length c, .int .i64 m] w fun e w' => ∃ g va, e = .returned (.pointer (some ⟨g, 0, none⟩)) ∧ w.heap.size ≤ g ∧ Pl w' w.heap.size g (window l) va (window l).length m ∧ Below w.heap.size w w' := by
  by_cases h : 65536 ≤ l.length
  · obtain ⟨i05, hi05, _, hsz5, _⟩ := info_parts info5
    obtain ⟨A1, hcut, hA1⟩ := print_cut (P := Try.prog) 22 5 .i64 Try.underlying22 hi05 hsz5 A l.length c (l.length - 65535) (by omega)
    have hr1 := hA1 w .u8 l hc hr
    have ew : window l = l.drop (l.length - 65535) := if_pos h
    have eL : l.length - (l.length - 65535) = (window l).length := by rw [ew, List.length_drop]
    rw [← ew, eL] at hr1
    rw [eL] at hcut
    obtain ⟨q, hq⟩ : ∃ q : Nat, q = l.length - 65535 := ⟨_, rfl⟩
    rw [← hq] at hcut
    have hL := (window_len l).1
    obtain ⟨L, hLw⟩ : ∃ L, L = window l := ⟨_, rfl⟩
    rw [← hLw] at hr1 hcut hL ⊢
    have e1 : (l.length : Int) - 65536 + 1 = (q : Int) := by omega
    have e2 : wrap64 ((l.length : Int) - 65536) = (l.length : Int) - 65536 := IntWalk.wrap64_in _ (by omega)
    have e3 : wrap64 ((l.length : Int) - 65536 + 1) = (q : Int) := by rw [e1]; exact IntWalk.wrap64_in _ (by omega)
    have hge : (l.length : Int) ≥ 65536 := by omega
    have hcut' : ∀ W : World, (Instr.slice 22 (.slice A l.length c) (some (.int .i64 (q : Int))) none none).run Try.prog W = .ok (.slice A1 L.length (c - q)) W := hcut
    have HC := Aside0.mk (clone_any A1 (c - q) L w hr1 (by omega))
    clear hr hA1 hi05 hsz5 hr1 ew eL hq hLw hcut hc hl h
    have HE1 := Aside0.mk e1
    clear e1
    go_enter Try.func70, Try.ntmps70
    go_wp2_with (first | (go_at_call 52; refine HC.out.mono ?_; rintro e w1 ⟨A5, c5, rfl, ho, hb⟩; have HO := Aside0.mk ho; have HB := Aside0.mk hb; clear ho hb))
    go_ret
    exact ⟨w1.heap.size, .slice A5 L.length c5, rfl, HB.out.size, ⟨heap_alloc_new w1 _, own_fr (Fr.alloc _ (fun _ => True)) HO.out (fun _ _ => trivial)⟩, below_alloc HB.out _⟩
  · have ew : window l = l := if_neg h
    rw [ew]
    have HC := Aside0.mk (clone_any A c l w hr hl)
    have hlt : ¬ (l.length : Int) ≥ 65536 := by omega
    clear hr hc hl h ew
    go_enter Try.func70, Try.ntmps70
    go_wp2_with (first | (go_at_call 52; refine HC.out.mono ?_; rintro e w1 ⟨A5, c5, rfl, ho, hb⟩; have HO := Aside0.mk ho; have HB := Aside0.mk hb; clear ho hb))
    go_ret
    exact ⟨w1.heap.size, .slice A5 l.length c5, rfl, HB.out.size, ⟨heap_alloc_new w1 _, own_fr (Fr.alloc _ (fun _ => True)) HO.out (fun _ _ => trivial)⟩, below_alloc HB.out _⟩
/-- The reader. -/
def IsRd (w : World) (g : Nat) (A : Option Addr) (n c : Nat) (k : Int) : Prop := w.heap[g]? = some (.cells #[.slice A n c, .int .i64 k] 125 (0, 0))
theorem IsRd.at {w : World} {g n c : Nat} {A : Option Addr} {k : Int} (h : IsRd w g A n c k) (i : Nat) (u : Value) (hu : (#[.slice A n c, .int .i64 k] : Array Value)[i]? = some u) : w.cell? ⟨g, i, none⟩ = some u ∧ w.frozen? ⟨g, i, none⟩ = false :=
  ⟨(cell_of_row w g i _ 125 (0, 0) h).trans hu, blk_frozen h i⟩
/-- Bytes of a number beyond its half: their sum and how many; none: they end too soon. -/
def ext : List Int → Option (Int × Nat)
  | [] => none
  | x :: r => if x < 255 then some (x, 1) else match ext r with
    | none => none
    | some (s, k) => some (x + s, k + 1)
/-- A number at a place: what it is and where it ends. -/
def num (b : List Int) (n : Int) (k : Nat) : Option (Int × Nat) := if n < 15 then some (n, k) else match ext (b.drop k) with
  | none => none
  | some (s, j) => some (n + s, k + j)
theorem ext_len : ∀ (l : List Int) (s : Int) (k : Nat), ext l = some (s, k) → 1 ≤ k ∧ k ≤ l.length := by
  intro l
  induction l with
  | nil => intro s k h; cases h
  | cons x r ih =>
    intro s k h
    rw [ext] at h
    by_cases c : x < 255
    · rw [if_pos c] at h
      cases h
      simp
    · rw [if_neg c] at h
      cases e : ext r with
      | none => rw [e] at h; cases h
      | some p =>
        obtain ⟨s', k'⟩ := p
        rw [e] at h
        cases h
        have := ih s' k' e
        simp only [List.length_cons]
        omega
theorem ext_bound : ∀ (l : List Int) (s : Int) (k : Nat), Byt l → ext l = some (s, k) → 0 ≤ s ∧ s ≤ 255 * (k : Int) := by
  intro l
  induction l with
  | nil => intro s k _ h; cases h
  | cons x r ih =>
    intro s k hb h
    have h0 := hb 0
    simp at h0
    rw [ext] at h
    by_cases c : x < 255
    · rw [if_pos c] at h
      cases h
      omega
    · rw [if_neg c] at h
      cases e : ext r with
      | none => rw [e] at h; cases h
      | some p =>
        obtain ⟨s', k'⟩ := p
        rw [e] at h
        cases h
        have := ih s' k' (hb.drop 1) e
        omega
theorem num_bound {b : List Int} {n : Int} {k : Nat} {s : Int} {j : Nat} (hb : Byt b) (h0 : 0 ≤ n) (h1 : n ≤ 15) (hk : k ≤ b.length) (h : num b n k = some (s, j)) : k ≤ j ∧ j ≤ b.length ∧ 0 ≤ s ∧ s ≤ 15 + 255 * (b.length : Int) := by
  unfold num at h
  by_cases c : n < 15
  · rw [if_pos c] at h
    cases h
    omega
  · rw [if_neg c] at h
    cases e : ext (b.drop k) with
    | none => rw [e] at h; cases h
    | some p =>
      obtain ⟨s', k'⟩ := p
      rw [e] at h
      cases h
      have a := ext_len _ _ _ e
      have d := ext_bound _ _ _ (hb.drop k) e
      rw [List.length_drop] at a
      omega
/-- What more answers. -/
def moreV (b : List Int) (n : Int) (k : Nat) : Value := match num b n k with
  | none => .tuple #[.int .i64 0, .int .i64 4]
  | some (s, _) => .tuple #[.int .i64 s, .int .i64 0]
def moreK (b : List Int) (n : Int) (k : Nat) : Nat := match num b n k with
  | none => b.length
  | some (_, j) => j
/-- The same, from the place on, n so far. -/
def extV (b : List Int) (n : Int) (p : Nat) : Value := match ext (b.drop p) with
  | none => .tuple #[.int .i64 0, .int .i64 4]
  | some (s, _) => .tuple #[.int .i64 (n + s), .int .i64 0]
def extK (b : List Int) (p : Nat) : Nat := match ext (b.drop p) with
  | none => b.length
  | some (_, j) => p + j
theorem moreV_ext (b : List Int) (n : Int) (k : Nat) (h : ¬ n < 15) : moreV b n k = extV b n k ∧ moreK b n k = extK b k := by
  unfold moreV moreK num extV extK
  rw [if_neg h]
  cases ext (b.drop k) <;> exact ⟨rfl, rfl⟩
theorem ext_end (b : List Int) (n : Int) : extV b n b.length = .tuple #[.int .i64 0, .int .i64 4] ∧ extK b b.length = b.length := by
  unfold extV extK
  rw [List.drop_length]
  exact ⟨rfl, rfl⟩
theorem ext_last (b : List Int) (n : Int) (p : Nat) (hp : p < b.length) (h : b.getD p 0 < 255) : extV b n p = .tuple #[.int .i64 (n + b.getD p 0), .int .i64 0] ∧ extK b p = p + 1 := by
  have hd : b.drop p = b.getD p 0 :: b.drop (p + 1) := by
    rw [List.getD_eq_getElem?_getD, List.getElem?_eq_getElem hp]
    exact List.drop_eq_getElem_cons hp
  unfold extV extK
  rw [hd, ext, if_pos h]
  exact ⟨rfl, rfl⟩
theorem ext_more (b : List Int) (n : Int) (p : Nat) (hp : p < b.length) (h : ¬ b.getD p 0 < 255) : extV b n p = extV b (n + b.getD p 0) (p + 1) ∧ extK b p = extK b (p + 1) := by
  have hd : b.drop p = b.getD p 0 :: b.drop (p + 1) := by
    rw [List.getD_eq_getElem?_getD, List.getElem?_eq_getElem hp]
    exact List.drop_eq_getElem_cons hp
  unfold extV extK
  rw [hd, ext, if_neg h]
  cases ext (b.drop (p + 1)) with
  | none => exact ⟨rfl, rfl⟩
  | some q => simp only [Int.add_assoc, Nat.add_assoc, Nat.add_comm, true_and]; omega
set_option maxHeartbeats 4000000 in
set_option maxRecDepth 100000 in
theorem more_calls (g : Nat) (A : Option Addr) (c : Nat) (b : List Int) (n : Int) (k : Nat) (w : World) (h : IsRd w g A b.length c k) (hr : ReadsInt w .u8 A b.length b) (hag : ∀ ad, A = some ad → 0 < b.length → ad.block ≠ g) (hb : Byt b) (hk : k ≤ b.length) (hl : b.length ≤ 140737488355327) (h0 : 0 ≤ n) (h1 : n ≤ 15) :
    Calls Try.prog 90 #[.pointer (some ⟨g, 0, none⟩), .int .i64 n] w fun e w' => e = .returned (moreV b n k) ∧ IsRd w' g A b.length c (moreK b n k) ∧ Fr w w' (fun i => i ≠ g) := by
  by_cases hn : n < 15
  · have e1 : moreV b n k = .tuple #[.int .i64 n, .int .i64 0] := by unfold moreV num; rw [if_pos hn]
    have e2 : moreK b n k = k := by unfold moreK num; rw [if_pos hn]
    rw [e1, e2]
    have H := Aside0.mk h
    clear h hr hag
    go_enter Try.func90, Try.ntmps90
    go_wp2
    go_ret2
    exact ⟨rfl, H.out, Fr.refl _ _⟩
  · obtain ⟨V, eV⟩ : ∃ V, V = moreV b n k := ⟨_, rfl⟩
    obtain ⟨K, eK⟩ : ∃ K, K = moreK b n k := ⟨_, rfl⟩
    have hV : V = extV b n (k + 0) := by rw [eV]; exact (moreV_ext b n k hn).1
    have hK : K = extK b (k + 0) := by rw [eK]; exact (moreV_ext b n k hn).2
    rw [← eV, ← eK]
    have HV := Aside0.mk hV
    have HK := Aside0.mk hK
    have H := Aside0.mk h
    have HR := Aside0.mk hr
    clear h hV hK eV eK hr
    go_enter Try.func90, Try.ntmps90
    go_wp2_with fail
    go_loopg [1] (b.length - k + 1) (fun kq v1 wc => ∃ (j : Nat) (s : Int), kq + j = b.length - k + 1 ∧ k + j ≤ b.length ∧ v1 = .int .i64 s ∧ (0 ≤ s ∧ s ≤ 15 + 255 * (j : Int)) ∧ Aside0 (V = extV b s (k + j)) ∧ Aside0 (K = extK b (k + j)) ∧ Aside0 (IsRd wc g A b.length c ((k + j : Nat) : Int)) ∧ Aside0 (Fr w wc (fun i => i ≠ g)))
    case atStart => exact ⟨0, n, by omega, by omega, rfl, ⟨h0, by omega⟩, HV, HK, H, ⟨Fr.refl _ _⟩⟩
    case round =>
      clear HV HK H
      obtain ⟨j, s, hkk, hjl, rfl, hs, HV, HK, HI, HF⟩ := hrel
      obtain ⟨p, hp⟩ : ∃ p, p = k + j := ⟨_, rfl⟩
      rw [← hp] at HV HK HI hjl
      have x0 := (HI.out.at 0 _ rfl).1
      have x1 := (HI.out.at 1 _ rfl).1
      have z1 := blk_frozen HI.out 1
      by_cases hend : p = b.length
      · have eV := Aside0.mk (show V = .tuple #[.int .i64 0, .int .i64 4] by rw [HV.out, hend]; exact (ext_end b s).1)
        have eK := Aside0.mk (show K = b.length by rw [HK.out, hend]; exact (ext_end b s).2)
        have hpe : (p : Int) = (b.length : Int) := by omega
        rw [hpe] at x1
        have HE := Aside0.mk (show IsRd wr g A b.length c (b.length : Int) by rw [← hpe]; exact HI.out)
        clear hpe hend hp
        go_wp2
        go_quiet (fail)
        go_wp2
        go_ret2
        rw [eV.out, eK.out]
        exact ⟨rfl, HE.out, HF.out.then (Fr.drewN _ _)⟩
      · have hpl : p < b.length := by omega
        have hne : ¬ ((p : Int) = (b.length : Int)) := by omega
        obtain ⟨ad, rfl, hc0⟩ := HR.out.2.2 (by omega)
        have hb0 : 0 < b.length := by omega
        have hag' : (ad.add p).block ≠ g := by rw [add_block]; exact hag ad rfl hb0
        have hx : wr.cell? (ad.add p) = some (.int .u8 (b.getD p 0)) := HF.out.cell (hc0 p hpl) hag'
        obtain ⟨y, hy⟩ : ∃ y, y = b.getD p 0 := ⟨_, rfl⟩
        rw [← hy] at hx
        have hyb := hb p
        rw [← hy] at hyb
        have hsy : -9223372036854775808 ≤ s + y ∧ s + y ≤ 9223372036854775807 := by
          obtain ⟨s0, s1⟩ := hs
          obtain ⟨y0, y1⟩ := hyb
          clear hag hk h0 h1 hn hkk hne hb0 HV HK HI HF
          omega
        have hp1 : (p : Int) < (b.length : Int) := by omega
        have hp0 : (0 : Int) ≤ (p : Int) := by omega
        cases gk with
        | zero => omega
        | succ k1 =>
          have hk1 : k1 + (j + 1) = b.length - k + 1 := by omega
          have hpj : p + 1 = k + (j + 1) := by omega
          have hs2 : 0 ≤ s + y ∧ s + y ≤ 15 + 255 * ((j + 1 : Nat) : Int) := by omega
          have HJ := Aside0.mk hpj
          have HY := Aside0.mk hy
          clear hp hy hkk hpj
          by_cases hy2 : y < 255
          · have eL := Aside0.mk (ext_last b s p hpl (by rw [← HY.out]; exact hy2))
            go_wp2
            go_quiet (fail)
            go_wp2
            go_quiet (fail)
            go_wp2
            go_ret2
            rw [HV.out, HK.out, eL.out.1, eL.out.2, ← HY.out]
            exact ⟨rfl, by rw [show ((p + 1 : Nat) : Int) = (p : Int) + 1 by omega]; exact blk_set (w := wr.drewN _) HI.out 1 _, HF.out.then ((Fr.drewN _ _).then (Fr.set ⟨g, 1, none⟩ _))⟩
          · go_wp2
            go_quiet (fail)
            go_wp2
            go_quiet (fail)
            go_wp2
            go_roundg k1
            case measure => omega
            case rel =>
              refine ⟨j + 1, s + y, hk1, by have := HJ.out; omega, rfl, hs2, ⟨?_⟩, ⟨?_⟩, ⟨?_⟩, ⟨?_⟩⟩
              · rw [HV.out, ← HJ.out, HY.out]
                exact (ext_more b s p hpl (by rw [← HY.out]; omega)).1
              · rw [HK.out, ← HJ.out]
                exact (ext_more b s p hpl (by rw [← HY.out]; omega)).2
              · rw [← HJ.out]
                rw [show ((p + 1 : Nat) : Int) = (p : Int) + 1 by omega]
                exact blk_set (w := wr.drewN _) HI.out 1 _
              · exact HF.out.then ((Fr.drewN _ _).then (Fr.set ⟨g, 1, none⟩ _))
end Go.Proofs.Ytnomebkdhjigjaa.W
