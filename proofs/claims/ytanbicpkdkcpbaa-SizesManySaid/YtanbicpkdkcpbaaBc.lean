/- SizesMany: however many spend, in whatever order: plain facts on a list of sums, and the walk. -/
import Derived.Test.YtanbicpkdkcpbaaBb
import Derived.Deep.WholeRow
namespace Go.Proofs.Ytanbicpkdkcpbaa.W
open Go.RowKit Go.Proofs.YtanbicpkdkcpbaaW.PrintWords Go.Proofs.YtanbicpkdkcpbaaW.PrintLast Go.Proofs.YtanbicpkdkcpbaaW.PrintMore
set_option linter.unusedVariables false
set_option linter.unusedSimpArgs false
def tot : List Int → Int
  | [] => 0
  | x :: l => x + tot l
theorem tot_app (a b : List Int) : tot (a ++ b) = tot a + tot b := by
  induction a with
  | nil => simp [tot]
  | cons x a ih => simp only [List.cons_append, tot, ih]; omega
theorem tot_nonneg (l : List Int) (h : ∀ x ∈ l, 0 ≤ x) : 0 ≤ tot l := by
  induction l with
  | nil => simp [tot]
  | cons x l ih =>
    have := h x (by simp)
    have := ih (fun y hy => h y (by simp [hy]))
    simp only [tot]; omega
theorem tot_take (l : List Int) (j : Nat) (hj : j < l.length) : tot (l.take (j + 1)) = tot (l.take j) + l.getD j 0 := by
  rw [List.take_add_one, tot_app, List.getElem?_eq_getElem hj, List.getD_eq_getElem?_getD, List.getElem?_eq_getElem hj]
  simp [tot]
theorem tot_take_le (l : List Int) (h : ∀ x ∈ l, 0 ≤ x) (j : Nat) : 0 ≤ tot (l.take j) ∧ tot (l.take j) ≤ tot l := by
  have e : tot l = tot (l.take j) + tot (l.drop j) := by rw [← tot_app, List.take_append_drop]
  have a := tot_nonneg (l.take j) (fun x hx => h x (List.mem_of_mem_take hx))
  have b := tot_nonneg (l.drop j) (fun x hx => h x (List.mem_of_mem_drop hx))
  omega
theorem tot_set (l : List Int) : ∀ (k : Nat) (v : Int), k < l.length → tot (l.set k v) = tot l - l.getD k 0 + v := by
  induction l with
  | nil => intro k v h; simp at h
  | cons x l ih =>
    intro k v h
    cases k with
    | zero => simp [tot]; omega
    | succ k =>
      have := ih k v (by simpa using h)
      simp only [List.set_cons_succ, tot, this, List.getD_cons_succ]
      omega
theorem getD_nonneg (l : List Int) (h : ∀ x ∈ l, 0 ≤ x) (k : Nat) : 0 ≤ l.getD k 0 := by
  rw [List.getD_eq_getElem?_getD]
  by_cases hk : k < l.length
  · rw [List.getElem?_eq_getElem hk]; exact h _ (List.getElem_mem hk)
  · rw [List.getElem?_eq_none (by omega)]; exact Int.le_refl _
theorem getD_le_tot (l : List Int) (h : ∀ x ∈ l, 0 ≤ x) (k : Nat) : l.getD k 0 ≤ tot l := by
  by_cases hk : k < l.length
  · have a := tot_take l k hk
    have b := tot_take_le l h k
    have c := tot_take_le l h (k + 1)
    omega
  · rw [List.getD_eq_getElem?_getD, List.getElem?_eq_none (by omega)]; exact tot_nonneg l h
/-- The row of sums in memory. -/
def IsS (w : World) (g : Nat) (l : List Int) : Prop := w.heap[g]? = some (.cells (l.map fun z => Value.int .i64 z).toArray 31 (0, 0)) ∧ l.length = 256
theorem IsS.at {w : World} {g : Nat} {l : List Int} (h : IsS w g l) (k : Nat) (hk : k < 256) : w.cell? ⟨g, k, none⟩ = some (.int .i64 (l.getD k 0)) ∧ w.frozen? ⟨g, k, none⟩ = false := by
  have hl := h.2
  refine ⟨(cell_of_row w g k _ 31 (0, 0) h.1).trans ?_, blk_frozen h.1 k⟩
  simp [List.getD_eq_getElem?_getD, List.getElem?_eq_getElem (show k < l.length by omega)]
theorem IsS.set {w : World} {g : Nat} {l : List Int} (h : IsS w g l) (k : Nat) (v : Int) : IsS (w.setCell ⟨g, k, none⟩ (.int .i64 v)) g (l.set k v) := by
  refine ⟨?_, by rw [List.length_set]; exact h.2⟩
  rw [blk_set h.1 k (.int .i64 v), List.map_set, List.setIfInBounds_toArray]
set_option maxRecDepth 100000 in
theorem zeros31 : Try.zeroCells31 = ((List.replicate 256 (0 : Int)).map fun z => Value.int .i64 z).toArray := by kernel_rfl
set_option maxRecDepth 100000 in
theorem size31 : (Try.prog.info? 31).map (·.size) = some Try.zeroCells31.size := by kernel_rfl
set_option maxRecDepth 100000 in
theorem one31 : Try.zeroCells31.all (·.oneCell') = true := by kernel_rfl
theorem IsS.new (w : World) : IsS (w.alloc (.cells Try.zeroCells31 31)) w.heap.size (List.replicate 256 0) := by
  refine ⟨?_, List.length_replicate ..⟩
  rw [← zeros31]
  exact heap_alloc_new w _
theorem tot_zeros (n : Nat) : tot (List.replicate n 0) = 0 := by
  induction n with
  | zero => rfl
  | succ n ih => rw [List.replicate_succ, tot, ih]; rfl
theorem u8_of {a : Int} (h : (Lit.int .u8 a).wf = true) : 0 ≤ a ∧ a < 256 := by
  simp only [Lit.wf, show IntKind.u8.min = 0 from rfl, show IntKind.u8.max = 255 from rfl, Bool.and_eq_true, decide_eq_true_eq] at h
  omega
/-- Who spends, and how much, as it lies at the call. -/
def Shr (w : World) (A : Option Addr) (n : Nat) : Prop := ∀ i, i < n → ∃ ad u z, A = some ad ∧ w.cell? (ad.add (i * 2)) = some (.int .u8 u) ∧ w.cell? ⟨(ad.add (i * 2)).block, (ad.add (i * 2)).off + 1, none⟩ = some (.int .i64 z) ∧ (-9223372036854775808 ≤ z ∧ z ≤ 9223372036854775807) ∧ (0 ≤ u ∧ u < 256)
/-- What is known from round to round. -/
structure MInv (w0 wc : World) (g1 g2 : Nat) (t s m : Int) (l : List Int) : Prop where
  s0 : 0 ≤ s
  s1 : s ≤ t
  m0 : m = -1 ∨ (0 ≤ m ∧ m > t - s)
  m1 : m ≤ 9223372036854775807
  b : IsB wc g1 t s
  r : IsS wc g2 l
  sum : tot l = s
  pos : ∀ x ∈ l, 0 ≤ x
  below : Below w0.heap.size w0 wc
set_option maxHeartbeats 8000000 in
set_option maxRecDepth 100000 in
theorem many_walk (t : Int) (A : Option Addr) (n c : Nat) (w : World) (ht : -9223372036854775808 ≤ t ∧ t ≤ 9223372036854775807) (hp : Shr w A n) (hn : n ≤ 9223372036854775807) :
    Calls Try.prog 5 #[.int .i64 t, .slice A n c] w fun e w' => e = .returned (.bool true) ∧ Below w.heap.size w w' := by
  have HP := Aside0.mk hp
  clear hp
  by_cases h0 : t < 0
  · go_enter Try.func5, Try.ntmps5
    go_wp2_with (go_at_call 16; refine (new_not t _ h0).mono ?_; rintro e w1 ⟨rfl, rfl⟩)
    go_ret
    exact ⟨rfl, Below.refl _ _⟩
  · have h0' : 0 ≤ t := by omega
    obtain ⟨g1, hg1⟩ : ∃ g, g = w.heap.size := ⟨_, rfl⟩
    go_enter Try.func5, Try.ntmps5
    go_upto_region 6 with (go_at_call 16; refine (new_calls t _ h0').mono ?_; rintro e w1 ⟨rfl, hb, hB⟩; have HB := Aside0.mk hb; have HW := Aside0.mk hB; clear hb hB)
    have hst := run_storeCells_new (P := Try.prog) w1 31 Try.zeroCells31 Try.zeroCells31 size31 rfl one31
    go_upto_region 7 with fail
    clear hst
    have HB2 := Aside0.mk (show IsB (w1.alloc (.cells Try.zeroCells31 31)) w.heap.size t 0 from (Fr.alloc _ (fun _ => True)).heap HB.out trivial)
    have HS2 := Aside0.mk (IsS.new w1)
    have HW2 := Aside0.mk (below_alloc HW.out (.cells Try.zeroCells31 31))
    have hw1 : w.heap.size < w1.heap.size := blk_lt HB.out
    obtain ⟨g2, hg2⟩ : ∃ g, g = w1.heap.size := ⟨_, rfl⟩
    rw [← hg1] at HB2 hw1 ⊢
    rw [← hg2] at HS2 hw1 ⊢
    generalize w1.alloc (.cells Try.zeroCells31 31) = w2 at HB2 HS2 HW2 ⊢
    have hgl : w.heap.size ≤ g1 := by omega
    clear HB HW hg2 hg1
    go_wp2_with fail
    go_loopg [8, 9, 10] n (fun kq v8 v9 v10 wc => ∃ (i : Nat) (s m : Int) (l : List Int), kq + i = n ∧ v9 = .int .i64 i ∧ v8 = .int .i64 m ∧ Aside0 (MInv w wc g1 g2 t s m l))
    case atStart => exact ⟨0, 0, -1, List.replicate 256 0, by omega, rfl, rfl, ⟨⟨Int.le_refl _, h0', .inl rfl, by omega, HB2.out, HS2.out, tot_zeros 256, fun x hx => by rw [List.eq_of_mem_replicate hx]; exact Int.le_refl _, HW2.out⟩⟩⟩
    case round =>
      obtain ⟨i, s, m, l, hk, rfl, rfl, HI⟩ := hrel
      clear HB2 HS2 HW2
      cases gk with
      | zero =>
        have hi : i = n := by omega
        subst hi
        go_upto_block 2 with fail
        go_cut [11, 12] from 84 to 99 (fun v11 v12 wc => v11 = .int .i64 s ∧ wc = wr)
        case first =>
          go_wp2_with fail
          go_loopg [11, 12] 256 (fun kq v11 v12 wc => ∃ (j : Nat), kq + j = 256 ∧ v12 = .int .i64 j ∧ v11 = .int .i64 (tot (l.take j)) ∧ wc = wr)
          case atStart => exact ⟨0, by omega, rfl, rfl, rfl⟩
          case round =>
            obtain ⟨j, hk, rfl, rfl, rfl⟩ := hrel
            cases gk with
            | zero =>
              have hj : j = 256 := by omega
              subst hj
              go_wp2
              go_meet
              refine ⟨?_, rfl⟩
              rw [List.take_of_length_le (by rw [HI.out.r.2]; omega), HI.out.sum]
            | succ k1 =>
              have hlt : (j : Int) < 256 := by omega
              have hj0 : (0 : Int) ≤ (j : Int) := by omega
              have x1 := (HI.out.r.at j (by omega)).1
              have e1 := tot_take l j (by rw [HI.out.r.2]; omega)
              have e2 := tot_take_le l HI.out.pos j
              have e3 := tot_take_le l HI.out.pos (j + 1)
              rw [HI.out.sum] at e2 e3
              have e4 := HI.out.s1
              obtain ⟨y, hy⟩ : ∃ y, y = l.getD j 0 := ⟨_, rfl⟩
              rw [← hy] at x1 e1
              have HE := Aside0.mk e1
              obtain ⟨q, hq⟩ : ∃ q, q = tot (l.take j) := ⟨_, rfl⟩
              rw [← hq] at e2 HE e1 ⊢
              have hn1 : ¬ y > t - q := by omega
              have hw1 : wrap64 (t - q) = t - q := IntWalk.wrap64_in _ (by omega)
              have hw2 : wrap64 (q + y) = q + y := IntWalk.wrap64_in _ (by omega)
              clear e1 e3 hy hq
              go_wp2
              go_roundg k1
              case measure => omega
              case rel => exact ⟨j + 1, by omega, by simp, by rw [HE.out], rfl⟩
        case rest =>
          obtain ⟨rfl, rfl⟩ := hcut
          have e0 := HI.out.s0
          have e1 := HI.out.s1
          have hw1 : wrap64 (t - s) = t - s := IntWalk.wrap64_in _ (by omega)
          have HC1 := Aside0.mk (spent_calls g1 t s _ HI.out.b)
          rcases HI.out.m0 with rfl | ⟨hm, hm'⟩
          · go_wp2_with (first | (go_at_call 18; refine HC1.out.mono ?_; rintro e w3 ⟨rfl, hI3, hF3⟩; have HI3 := Aside0.mk hI3; have HF3 := Aside0.mk hF3; clear hI3 hF3) | (go_at_call 19; refine (left_calls g1 t s w3 HI3.out e0 e1 ht.2).mono ?_; rintro e w4 ⟨rfl, hI4, hF4⟩; have HF4 := Aside0.mk hF4; clear hI4 hF4))
            go_ret
            exact ⟨rfl, HI.out.below.trans ((HF3.out.then HF4.out).below (B := w.heap.size) (fun j hj => ⟨Nat.lt_of_lt_of_le hj HI.out.below.size, by omega⟩))⟩
          · have hm1 : ¬ m < 0 := by omega
            go_wp2_with (first | (go_at_call 18; refine HC1.out.mono ?_; rintro e w3 ⟨rfl, hI3, hF3⟩; have HI3 := Aside0.mk hI3; have HF3 := Aside0.mk hF3; clear hI3 hF3) | (go_at_call 19; refine (left_calls g1 t s w3 HI3.out e0 e1 ht.2).mono ?_; rintro e w4 ⟨rfl, hI4, hF4⟩; have HF4 := Aside0.mk hF4; clear hI4 hF4))
            go_ret
            exact ⟨rfl, HI.out.below.trans ((HF3.out.then HF4.out).below (B := w.heap.size) (fun j hj => ⟨Nat.lt_of_lt_of_le hj HI.out.below.size, by omega⟩))⟩
      | succ k1 =>
        obtain ⟨ad, u, z, rfl, hc0, hc1, hz, hu⟩ := HP.out i (by omega)
        have x0 := pw_cell_below HI.out.below hc0
        have x1 := pw_cell_below HI.out.below hc1
        have hlt : (i : Int) < (n : Int) := by omega
        have hi0 : (0 : Int) ≤ (i : Int) := by omega
        obtain ⟨hu0, hu1⟩ := hu
        by_cases hz0 : z < 0
        · have hnn : (0 : Int) ≤ 0 ∧ (0 : Int) ≤ 9223372036854775807 := by omega
          go_upto_region 14 with fail
          have HK := spend_cases t s (0 : Int)
          have HC := Aside0.mk (spend_calls g1 t s (0 : Int) wr HI.out.b HI.out.s0 HI.out.s1 ht.2 (by omega))
          generalize spendE t s (0 : Int) = E at HK HC
          generalize spendS t s (0 : Int) = S2 at HK HC
          rcases HK with ⟨j1, e1, e2⟩ | ⟨j1, j2, e1, e2⟩ | ⟨j1, j2, e1, e2⟩
          · exact absurd j1 (by omega)
          · subst e1
            subst e2
            go_upto_region 18 with (go_at_call 17; refine HC.out.mono ?_; rintro e w3 ⟨rfl, hI3, hF3⟩; have HI3 := Aside0.mk hI3; have HF3 := Aside0.mk hF3; clear hI3 hF3)
            have HX3 := Aside0.mk (HI.out.below.trans (HF3.out.below (B := w.heap.size) (fun j hj => ⟨Nat.lt_of_lt_of_le hj HI.out.below.size, by omega⟩)))
            have HR3 := Aside0.mk (show IsS w3 g2 l from ⟨HF3.out.heap HI.out.r.1 (by omega), HI.out.r.2⟩)
            by_cases hm : m < 0
            · go_wp2
              go_roundg k1
              case measure => omega
              case rel => exact ⟨i + 1, S2, (0 : Int), l, by omega, by simp, rfl, ⟨⟨HI.out.s0, HI.out.s1, .inr ⟨by omega, j2⟩, by omega, HI3.out, HR3.out, HI.out.sum, HI.out.pos, HX3.out⟩⟩⟩
            · by_cases hm2 : (0 : Int) < m
              · go_wp2
                go_roundg k1
                case measure => omega
                case rel => exact ⟨i + 1, S2, (0 : Int), l, by omega, by simp, rfl, ⟨⟨HI.out.s0, HI.out.s1, .inr ⟨by omega, j2⟩, by omega, HI3.out, HR3.out, HI.out.sum, HI.out.pos, HX3.out⟩⟩⟩
              · go_wp2
                go_roundg k1
                case measure => omega
                case rel => exact ⟨i + 1, S2, m, l, by omega, by simp, rfl, ⟨⟨HI.out.s0, HI.out.s1, HI.out.m0, HI.out.m1, HI3.out, HR3.out, HI.out.sum, HI.out.pos, HX3.out⟩⟩⟩
          · subst e1
            subst e2
            have hx : l.getD u.toNat 0 ≤ s := by have := getD_le_tot l HI.out.pos u.toNat; rw [HI.out.sum] at this; exact this
            have hx0 : 0 ≤ l.getD u.toNat 0 := getD_nonneg l HI.out.pos u.toNat
            have hul : u.toNat < l.length := by rw [HI.out.r.2]; omega
            obtain ⟨y, hy⟩ : ∃ y, y = l.getD u.toNat 0 := ⟨_, rfl⟩
            have HY := Aside0.mk hy
            rw [← hy] at hx hx0
            clear hy
            have hb0 := HI.out.s0
            have hb1 := HI.out.s1
            have hn1 : ¬ (0 : Int) > t - y := by omega
            have hwy : wrap64 (t - y) = t - y := IntWalk.wrap64_in _ (by omega)
            have hwz : wrap64 y = y := IntWalk.wrap64_in _ (by omega)
            go_upto_if 49 with (go_at_call 17; refine HC.out.mono ?_; rintro e w3 ⟨rfl, hI3, hF3⟩; have HI3 := Aside0.mk hI3; have HF3 := Aside0.mk hF3; clear hI3 hF3)
            have HX3 := Aside0.mk (HI.out.below.trans (HF3.out.below (B := w.heap.size) (fun j hj => ⟨Nat.lt_of_lt_of_le hj HI.out.below.size, by omega⟩)))
            have HR3 := Aside0.mk (show IsS w3 g2 l from ⟨HF3.out.heap HI.out.r.1 (by omega), HI.out.r.2⟩)
            have x3 : w3.cell? (ad.add (i * 2)) = some (.int .u8 u) := pw_cell_below HX3.out hc0
            have x4 : w3.cell? ⟨g2, u.toNat, none⟩ = some (.int .i64 y) := by rw [HY.out]; exact (HR3.out.at u.toNat (by omega)).1
            go_upto_region 17 with fail
            have HId := Aside0.mk (show IsB w3.drew g1 t (s + (0 : Int)) from HI3.out)
            have HRd := Aside0.mk (show IsS w3.drew g2 l from HR3.out)
            have HXd := Aside0.mk (HX3.out.drew)
            have y4 : w3.drew.cell? ⟨g2, u.toNat, none⟩ = some (.int .i64 y) := x4
            have z4 := (HRd.out.at u.toNat (by omega)).2
            refine start_ (n := 16) (S := fun w' => w'.cell? (ad.add (i * 2)) = some (.int .u8 u) ∧ w'.cell? ⟨g2, u.toNat, none⟩ = some (.int .i64 y)) (ds := [15]) #[false, false, false, false, false, false, false, false, false, false, false, false, false, false, false, false] (by kernel_rfl) rfl rfl ⟨pw_cell_below HXd.out hc0, y4⟩ (fun hHeld => ?_)
            generalize w3.drew = wd at HId HRd HXd y4 z4 hHeld ⊢
            refine pure_ (i := 0) (N := some 61) (v := ?_) (a' := ?_) #[true, false, false, false, false, false, false, false, false, false, false, false, false, false, false, false] rfl rfl (by kernel_rfl) (fun _ _ _ h => h) (Or.inl ⟨by rfl, ?_⟩) ?_ ?_
            rotate_left
            · intro w'
              go_simp
              with_reducible rfl
            rotate_left
            · simp only [Act.put, List.setIfInBounds_toArray, List.set_cons_zero, List.set_cons_succ, i64_w, i32_w]
              rfl
            refine pure_ (i := 1) (N := some 62) (v := ?_) (a' := ?_) #[true, true, false, false, false, false, false, false, false, false, false, false, false, false, false, false] rfl rfl (by kernel_rfl) (fun _ _ _ h => h) (Or.inl ⟨by rfl, ?_⟩) ?_ ?_
            rotate_left
            · intro w'
              go_simp
              with_reducible rfl
            rotate_left
            · simp only [Act.put, List.setIfInBounds_toArray, List.set_cons_zero, List.set_cons_succ, i64_w, i32_w]
              rfl
            refine pure_ (i := 2) (N := some 63) (v := ?_) (a' := ?_) #[true, true, true, false, false, false, false, false, false, false, false, false, false, false, false, false] rfl rfl (by kernel_rfl) (fun _ _ _ h => h) (Or.inl ⟨by rfl, ?_⟩) ?_ ?_
            rotate_left
            · intro w'
              go_simp
              with_reducible rfl
            rotate_left
            · simp only [Act.put, List.setIfInBounds_toArray, List.set_cons_zero, List.set_cons_succ, i64_w, i32_w]
              rfl
            refine pure_ (i := 3) (N := some 64) (v := ?_) (a' := ?_) #[true, true, true, true, false, false, false, false, false, false, false, false, false, false, false, false] rfl rfl (by kernel_rfl) (fun _ _ _ h => h) (Or.inl ⟨by rfl, ?_⟩) ?_ ?_
            rotate_left
            · intro w'
              go_simp
              with_reducible rfl
            rotate_left
            · simp only [Act.put, List.setIfInBounds_toArray, List.set_cons_zero, List.set_cons_succ, i64_w, i32_w]
              rfl
            refine pure_ (i := 5) (N := some 66) (v := ?_) (a' := ?_) #[true, true, true, true, false, true, false, false, false, false, false, false, false, false, false, false] rfl rfl (by kernel_rfl) (fun _ _ _ h => h) (Or.inl ⟨by rfl, ?_⟩) ?_ ?_
            rotate_left
            · intro w'
              go_simp
              with_reducible rfl
            rotate_left
            · simp only [Act.put, List.setIfInBounds_toArray, List.set_cons_zero, List.set_cons_succ, i64_w, i32_w]
              rfl
            refine pure_ (i := 6) (N := some 67) (v := ?_) (a' := ?_) #[true, true, true, true, false, true, true, false, false, false, false, false, false, false, false, false] rfl rfl (by kernel_rfl) (fun _ _ _ h => h) (Or.inl ⟨by rfl, ?_⟩) ?_ ?_
            rotate_left
            · intro w'
              go_simp
              with_reducible rfl
            rotate_left
            · simp only [Act.put, List.setIfInBounds_toArray, List.set_cons_zero, List.set_cons_succ, i64_w, i32_w]
              rfl
            refine pure_ (i := 7) (N := some 68) (v := ?_) (a' := ?_) #[true, true, true, true, false, true, true, true, false, false, false, false, false, false, false, false] rfl rfl (by kernel_rfl) (fun _ _ _ h => h) (Or.inl ⟨by rfl, ?_⟩) ?_ ?_
            rotate_left
            · intro w'
              go_simp
              with_reducible rfl
            rotate_left
            · simp only [Act.put, List.setIfInBounds_toArray, List.set_cons_zero, List.set_cons_succ, i64_w, i32_w]
              rfl
            refine pure_ (i := 8) (N := some 69) (v := ?_) (a' := ?_) #[true, true, true, true, false, true, true, true, true, false, false, false, false, false, false, false] rfl rfl (by kernel_rfl) (fun _ _ _ h => h) (Or.inl ⟨by rfl, ?_⟩) ?_ ?_
            rotate_left
            · intro w'
              go_simp
              with_reducible rfl
            rotate_left
            · simp only [Act.put, List.setIfInBounds_toArray, List.set_cons_zero, List.set_cons_succ, i64_w, i32_w]
              rfl
            refine pure_ (i := 12) (N := some 73) (v := ?_) (a' := ?_) #[true, true, true, true, false, true, true, true, true, false, false, false, true, false, false, false] rfl rfl (by kernel_rfl) (fun _ _ _ h => h) (Or.inl ⟨by rfl, ?_⟩) ?_ ?_
            rotate_left
            · intro w'
              go_simp
              with_reducible rfl
            rotate_left
            · simp only [Act.put, List.setIfInBounds_toArray, List.set_cons_zero, List.set_cons_succ, i64_w, i32_w]
              rfl
            refine take_ (i := 4) (N := some 65) (v := ?_) (a' := ?_) #[true, true, true, true, true, true, true, true, true, false, false, false, true, false, false, false] rfl rfl (by kernel_rfl) (fun _ _ _ h => h) (Or.inl ⟨by rfl, ?_⟩) hHeld ?_ ?_
            rotate_left
            · rintro w' ⟨s0, s1⟩
              go_simp
              with_reducible rfl
            rotate_left
            · simp only [Act.put, List.setIfInBounds_toArray, List.set_cons_zero, List.set_cons_succ, i64_w, i32_w]
              rfl
            refine take_ (i := 9) (N := some 70) (v := ?_) (a' := ?_) #[true, true, true, true, true, true, true, true, true, true, false, false, true, false, false, false] rfl rfl (by kernel_rfl) (fun _ _ _ h => h) (Or.inl ⟨by rfl, ?_⟩) hHeld ?_ ?_
            rotate_left
            · rintro w' ⟨s0, s1⟩
              go_simp
              with_reducible rfl
            rotate_left
            · simp only [Act.put, List.setIfInBounds_toArray, List.set_cons_zero, List.set_cons_succ, i64_w, i32_w]
              rfl
            refine pure_ (i := 10) (N := some 71) (v := ?_) (a' := ?_) #[true, true, true, true, true, true, true, true, true, true, true, false, true, false, false, false] rfl rfl (by kernel_rfl) (fun _ _ _ h => h) (Or.inl ⟨by rfl, ?_⟩) ?_ ?_
            rotate_left
            · intro w'
              go_simp
              with_reducible rfl
            rotate_left
            · simp only [Act.put, List.setIfInBounds_toArray, List.set_cons_zero, List.set_cons_succ, i64_w, i32_w]
              rfl
            refine take_ (i := 11) (N := some 72) (v := ?_) (a' := ?_) #[true, true, true, true, true, true, true, true, true, true, true, true, true, false, false, false] rfl rfl (by kernel_rfl) (fun _ _ _ h => h) (Or.inl ⟨by rfl, ?_⟩) hHeld ?_ ?_
            rotate_left
            · rintro w' ⟨s0, s1⟩
              go_simp
              with_reducible rfl
            rotate_left
            · simp only [Act.put, List.setIfInBounds_toArray, List.set_cons_zero, List.set_cons_succ, i64_w, i32_w]
              rfl
            refine pure_ (i := 13) (N := some 74) (v := ?_) (a' := ?_) #[true, true, true, true, true, true, true, true, true, true, true, true, true, true, false, false] rfl rfl (by kernel_rfl) (fun _ _ _ h => h) (Or.inl ⟨by rfl, ?_⟩) ?_ ?_
            rotate_left
            · intro w'
              go_simp
              with_reducible rfl
            rotate_left
            · simp only [Act.put, List.setIfInBounds_toArray, List.set_cons_zero, List.set_cons_succ, i64_w, i32_w]
              rfl
            refine pure_ (i := 14) (N := some 75) (v := ?_) (a' := ?_) #[true, true, true, true, true, true, true, true, true, true, true, true, true, true, true, false] rfl rfl (by kernel_rfl) (fun _ _ _ h => h) (Or.inl ⟨by rfl, ?_⟩) ?_ ?_
            rotate_left
            · intro w'
              go_simp
              with_reducible rfl
            rotate_left
            · simp only [Act.put, List.setIfInBounds_toArray, List.set_cons_zero, List.set_cons_succ, i64_w, i32_w]
              rfl
            refine last_ (i := 15) (N := none) #[true, true, true, true, true, true, true, true, true, true, true, true, true, true, true, true] rfl rfl (by kernel_rfl) (by decide) (fun K hK => ?_)
            refine skip_ (w1 := ?_) (by rfl) rfl ?_ ?_
            rotate_left
            · go_simp
              rfl
            refine hK.out _ _ ?_
            clear hK K
            refine done_ (by kernel_rfl) ?_
            go_wp2
            go_roundg k1
            case measure => omega
            case rel =>
              refine ⟨i + 1, s + (0 : Int), m, l.set u.toNat y, by omega, by simp, rfl, ⟨⟨by omega, by omega, ?_, HI.out.m1, ?_, IsS.set HRd.out u.toNat _, ?_, ?_, ?_⟩⟩⟩
              · rcases HI.out.m0 with h | ⟨h, h'⟩
                · exact .inl h
                · exact .inr ⟨h, by omega⟩
              · exact (Fr.set ⟨g2, u.toNat, none⟩ _).heap HId.out (show g1 ≠ g2 by omega)
              · rw [tot_set l u.toNat _ hul, ← HY.out, HI.out.sum]; omega
              · intro x hx'
                rcases List.mem_or_eq_of_mem_set hx' with h | h
                · exact HI.out.pos x h
                · omega
              · exact HXd.out.trans ((Fr.set ⟨g2, u.toNat, none⟩ _).below (B := w.heap.size) (fun j hj => ⟨Nat.lt_of_lt_of_le hj HXd.out.size, show j ≠ g2 by omega⟩))
        · have hnn : 0 ≤ z ∧ z ≤ 9223372036854775807 := by omega
          go_upto_region 14 with fail
          have HK := spend_cases t s z
          have HC := Aside0.mk (spend_calls g1 t s z wr HI.out.b HI.out.s0 HI.out.s1 ht.2 (by omega))
          generalize spendE t s z = E at HK HC
          generalize spendS t s z = S2 at HK HC
          rcases HK with ⟨j1, e1, e2⟩ | ⟨j1, j2, e1, e2⟩ | ⟨j1, j2, e1, e2⟩
          · exact absurd j1 (by omega)
          · subst e1
            subst e2
            go_upto_region 18 with (go_at_call 17; refine HC.out.mono ?_; rintro e w3 ⟨rfl, hI3, hF3⟩; have HI3 := Aside0.mk hI3; have HF3 := Aside0.mk hF3; clear hI3 hF3)
            have HX3 := Aside0.mk (HI.out.below.trans (HF3.out.below (B := w.heap.size) (fun j hj => ⟨Nat.lt_of_lt_of_le hj HI.out.below.size, by omega⟩)))
            have HR3 := Aside0.mk (show IsS w3 g2 l from ⟨HF3.out.heap HI.out.r.1 (by omega), HI.out.r.2⟩)
            by_cases hm : m < 0
            · go_wp2
              go_roundg k1
              case measure => omega
              case rel => exact ⟨i + 1, S2, z, l, by omega, by simp, rfl, ⟨⟨HI.out.s0, HI.out.s1, .inr ⟨by omega, j2⟩, by omega, HI3.out, HR3.out, HI.out.sum, HI.out.pos, HX3.out⟩⟩⟩
            · by_cases hm2 : z < m
              · go_wp2
                go_roundg k1
                case measure => omega
                case rel => exact ⟨i + 1, S2, z, l, by omega, by simp, rfl, ⟨⟨HI.out.s0, HI.out.s1, .inr ⟨by omega, j2⟩, by omega, HI3.out, HR3.out, HI.out.sum, HI.out.pos, HX3.out⟩⟩⟩
              · go_wp2
                go_roundg k1
                case measure => omega
                case rel => exact ⟨i + 1, S2, m, l, by omega, by simp, rfl, ⟨⟨HI.out.s0, HI.out.s1, HI.out.m0, HI.out.m1, HI3.out, HR3.out, HI.out.sum, HI.out.pos, HX3.out⟩⟩⟩
          · subst e1
            subst e2
            have hx : l.getD u.toNat 0 ≤ s := by have := getD_le_tot l HI.out.pos u.toNat; rw [HI.out.sum] at this; exact this
            have hx0 : 0 ≤ l.getD u.toNat 0 := getD_nonneg l HI.out.pos u.toNat
            have hul : u.toNat < l.length := by rw [HI.out.r.2]; omega
            obtain ⟨y, hy⟩ : ∃ y, y = l.getD u.toNat 0 := ⟨_, rfl⟩
            have HY := Aside0.mk hy
            rw [← hy] at hx hx0
            clear hy
            have hb0 := HI.out.s0
            have hb1 := HI.out.s1
            have hn1 : ¬ z > t - y := by omega
            have hwy : wrap64 (t - y) = t - y := IntWalk.wrap64_in _ (by omega)
            have hwz : wrap64 (y + z) = (y + z) := IntWalk.wrap64_in _ (by omega)
            go_upto_if 49 with (go_at_call 17; refine HC.out.mono ?_; rintro e w3 ⟨rfl, hI3, hF3⟩; have HI3 := Aside0.mk hI3; have HF3 := Aside0.mk hF3; clear hI3 hF3)
            have HX3 := Aside0.mk (HI.out.below.trans (HF3.out.below (B := w.heap.size) (fun j hj => ⟨Nat.lt_of_lt_of_le hj HI.out.below.size, by omega⟩)))
            have HR3 := Aside0.mk (show IsS w3 g2 l from ⟨HF3.out.heap HI.out.r.1 (by omega), HI.out.r.2⟩)
            have x3 : w3.cell? (ad.add (i * 2)) = some (.int .u8 u) := pw_cell_below HX3.out hc0
            have x4 : w3.cell? ⟨g2, u.toNat, none⟩ = some (.int .i64 y) := by rw [HY.out]; exact (HR3.out.at u.toNat (by omega)).1
            go_upto_region 17 with fail
            have HId := Aside0.mk (show IsB w3.drew g1 t (s + z) from HI3.out)
            have HRd := Aside0.mk (show IsS w3.drew g2 l from HR3.out)
            have HXd := Aside0.mk (HX3.out.drew)
            have y4 : w3.drew.cell? ⟨g2, u.toNat, none⟩ = some (.int .i64 y) := x4
            have z4 := (HRd.out.at u.toNat (by omega)).2
            refine start_ (n := 16) (S := fun w' => w'.cell? (ad.add (i * 2)) = some (.int .u8 u) ∧ w'.cell? ⟨g2, u.toNat, none⟩ = some (.int .i64 y)) (ds := [15]) #[false, false, false, false, false, false, false, false, false, false, false, false, false, false, false, false] (by kernel_rfl) rfl rfl ⟨pw_cell_below HXd.out hc0, y4⟩ (fun hHeld => ?_)
            generalize w3.drew = wd at HId HRd HXd y4 z4 hHeld ⊢
            refine pure_ (i := 0) (N := some 61) (v := ?_) (a' := ?_) #[true, false, false, false, false, false, false, false, false, false, false, false, false, false, false, false] rfl rfl (by kernel_rfl) (fun _ _ _ h => h) (Or.inl ⟨by rfl, ?_⟩) ?_ ?_
            rotate_left
            · intro w'
              go_simp
              with_reducible rfl
            rotate_left
            · simp only [Act.put, List.setIfInBounds_toArray, List.set_cons_zero, List.set_cons_succ, i64_w, i32_w]
              rfl
            refine pure_ (i := 1) (N := some 62) (v := ?_) (a' := ?_) #[true, true, false, false, false, false, false, false, false, false, false, false, false, false, false, false] rfl rfl (by kernel_rfl) (fun _ _ _ h => h) (Or.inl ⟨by rfl, ?_⟩) ?_ ?_
            rotate_left
            · intro w'
              go_simp
              with_reducible rfl
            rotate_left
            · simp only [Act.put, List.setIfInBounds_toArray, List.set_cons_zero, List.set_cons_succ, i64_w, i32_w]
              rfl
            refine pure_ (i := 2) (N := some 63) (v := ?_) (a' := ?_) #[true, true, true, false, false, false, false, false, false, false, false, false, false, false, false, false] rfl rfl (by kernel_rfl) (fun _ _ _ h => h) (Or.inl ⟨by rfl, ?_⟩) ?_ ?_
            rotate_left
            · intro w'
              go_simp
              with_reducible rfl
            rotate_left
            · simp only [Act.put, List.setIfInBounds_toArray, List.set_cons_zero, List.set_cons_succ, i64_w, i32_w]
              rfl
            refine pure_ (i := 3) (N := some 64) (v := ?_) (a' := ?_) #[true, true, true, true, false, false, false, false, false, false, false, false, false, false, false, false] rfl rfl (by kernel_rfl) (fun _ _ _ h => h) (Or.inl ⟨by rfl, ?_⟩) ?_ ?_
            rotate_left
            · intro w'
              go_simp
              with_reducible rfl
            rotate_left
            · simp only [Act.put, List.setIfInBounds_toArray, List.set_cons_zero, List.set_cons_succ, i64_w, i32_w]
              rfl
            refine pure_ (i := 5) (N := some 66) (v := ?_) (a' := ?_) #[true, true, true, true, false, true, false, false, false, false, false, false, false, false, false, false] rfl rfl (by kernel_rfl) (fun _ _ _ h => h) (Or.inl ⟨by rfl, ?_⟩) ?_ ?_
            rotate_left
            · intro w'
              go_simp
              with_reducible rfl
            rotate_left
            · simp only [Act.put, List.setIfInBounds_toArray, List.set_cons_zero, List.set_cons_succ, i64_w, i32_w]
              rfl
            refine pure_ (i := 6) (N := some 67) (v := ?_) (a' := ?_) #[true, true, true, true, false, true, true, false, false, false, false, false, false, false, false, false] rfl rfl (by kernel_rfl) (fun _ _ _ h => h) (Or.inl ⟨by rfl, ?_⟩) ?_ ?_
            rotate_left
            · intro w'
              go_simp
              with_reducible rfl
            rotate_left
            · simp only [Act.put, List.setIfInBounds_toArray, List.set_cons_zero, List.set_cons_succ, i64_w, i32_w]
              rfl
            refine pure_ (i := 7) (N := some 68) (v := ?_) (a' := ?_) #[true, true, true, true, false, true, true, true, false, false, false, false, false, false, false, false] rfl rfl (by kernel_rfl) (fun _ _ _ h => h) (Or.inl ⟨by rfl, ?_⟩) ?_ ?_
            rotate_left
            · intro w'
              go_simp
              with_reducible rfl
            rotate_left
            · simp only [Act.put, List.setIfInBounds_toArray, List.set_cons_zero, List.set_cons_succ, i64_w, i32_w]
              rfl
            refine pure_ (i := 8) (N := some 69) (v := ?_) (a' := ?_) #[true, true, true, true, false, true, true, true, true, false, false, false, false, false, false, false] rfl rfl (by kernel_rfl) (fun _ _ _ h => h) (Or.inl ⟨by rfl, ?_⟩) ?_ ?_
            rotate_left
            · intro w'
              go_simp
              with_reducible rfl
            rotate_left
            · simp only [Act.put, List.setIfInBounds_toArray, List.set_cons_zero, List.set_cons_succ, i64_w, i32_w]
              rfl
            refine pure_ (i := 12) (N := some 73) (v := ?_) (a' := ?_) #[true, true, true, true, false, true, true, true, true, false, false, false, true, false, false, false] rfl rfl (by kernel_rfl) (fun _ _ _ h => h) (Or.inl ⟨by rfl, ?_⟩) ?_ ?_
            rotate_left
            · intro w'
              go_simp
              with_reducible rfl
            rotate_left
            · simp only [Act.put, List.setIfInBounds_toArray, List.set_cons_zero, List.set_cons_succ, i64_w, i32_w]
              rfl
            refine take_ (i := 4) (N := some 65) (v := ?_) (a' := ?_) #[true, true, true, true, true, true, true, true, true, false, false, false, true, false, false, false] rfl rfl (by kernel_rfl) (fun _ _ _ h => h) (Or.inl ⟨by rfl, ?_⟩) hHeld ?_ ?_
            rotate_left
            · rintro w' ⟨s0, s1⟩
              go_simp
              with_reducible rfl
            rotate_left
            · simp only [Act.put, List.setIfInBounds_toArray, List.set_cons_zero, List.set_cons_succ, i64_w, i32_w]
              rfl
            refine take_ (i := 9) (N := some 70) (v := ?_) (a' := ?_) #[true, true, true, true, true, true, true, true, true, true, false, false, true, false, false, false] rfl rfl (by kernel_rfl) (fun _ _ _ h => h) (Or.inl ⟨by rfl, ?_⟩) hHeld ?_ ?_
            rotate_left
            · rintro w' ⟨s0, s1⟩
              go_simp
              with_reducible rfl
            rotate_left
            · simp only [Act.put, List.setIfInBounds_toArray, List.set_cons_zero, List.set_cons_succ, i64_w, i32_w]
              rfl
            refine pure_ (i := 10) (N := some 71) (v := ?_) (a' := ?_) #[true, true, true, true, true, true, true, true, true, true, true, false, true, false, false, false] rfl rfl (by kernel_rfl) (fun _ _ _ h => h) (Or.inl ⟨by rfl, ?_⟩) ?_ ?_
            rotate_left
            · intro w'
              go_simp
              with_reducible rfl
            rotate_left
            · simp only [Act.put, List.setIfInBounds_toArray, List.set_cons_zero, List.set_cons_succ, i64_w, i32_w]
              rfl
            refine take_ (i := 11) (N := some 72) (v := ?_) (a' := ?_) #[true, true, true, true, true, true, true, true, true, true, true, true, true, false, false, false] rfl rfl (by kernel_rfl) (fun _ _ _ h => h) (Or.inl ⟨by rfl, ?_⟩) hHeld ?_ ?_
            rotate_left
            · rintro w' ⟨s0, s1⟩
              go_simp
              with_reducible rfl
            rotate_left
            · simp only [Act.put, List.setIfInBounds_toArray, List.set_cons_zero, List.set_cons_succ, i64_w, i32_w]
              rfl
            refine pure_ (i := 13) (N := some 74) (v := ?_) (a' := ?_) #[true, true, true, true, true, true, true, true, true, true, true, true, true, true, false, false] rfl rfl (by kernel_rfl) (fun _ _ _ h => h) (Or.inl ⟨by rfl, ?_⟩) ?_ ?_
            rotate_left
            · intro w'
              go_simp
              with_reducible rfl
            rotate_left
            · simp only [Act.put, List.setIfInBounds_toArray, List.set_cons_zero, List.set_cons_succ, i64_w, i32_w]
              rfl
            refine pure_ (i := 14) (N := some 75) (v := ?_) (a' := ?_) #[true, true, true, true, true, true, true, true, true, true, true, true, true, true, true, false] rfl rfl (by kernel_rfl) (fun _ _ _ h => h) (Or.inl ⟨by rfl, ?_⟩) ?_ ?_
            rotate_left
            · intro w'
              go_simp
              with_reducible rfl
            rotate_left
            · simp only [Act.put, List.setIfInBounds_toArray, List.set_cons_zero, List.set_cons_succ, i64_w, i32_w]
              rfl
            refine last_ (i := 15) (N := none) #[true, true, true, true, true, true, true, true, true, true, true, true, true, true, true, true] rfl rfl (by kernel_rfl) (by decide) (fun K hK => ?_)
            refine skip_ (w1 := ?_) (by rfl) rfl ?_ ?_
            rotate_left
            · go_simp
              rfl
            refine hK.out _ _ ?_
            clear hK K
            refine done_ (by kernel_rfl) ?_
            go_wp2
            go_roundg k1
            case measure => omega
            case rel =>
              refine ⟨i + 1, s + z, m, l.set u.toNat (y + z), by omega, by simp, rfl, ⟨⟨by omega, by omega, ?_, HI.out.m1, ?_, IsS.set HRd.out u.toNat _, ?_, ?_, ?_⟩⟩⟩
              · rcases HI.out.m0 with h | ⟨h, h'⟩
                · exact .inl h
                · exact .inr ⟨h, by omega⟩
              · exact (Fr.set ⟨g2, u.toNat, none⟩ _).heap HId.out (show g1 ≠ g2 by omega)
              · rw [tot_set l u.toNat _ hul, ← HY.out, HI.out.sum]; omega
              · intro x hx'
                rcases List.mem_or_eq_of_mem_set hx' with h | h
                · exact HI.out.pos x h
                · omega
              · exact HXd.out.trans ((Fr.set ⟨g2, u.toNat, none⟩ _).below (B := w.heap.size) (fun j hj => ⟨Nat.lt_of_lt_of_le hj HXd.out.size, show j ≠ g2 by omega⟩))
end Go.Proofs.Ytanbicpkdkcpbaa.W
