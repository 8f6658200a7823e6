/- The verdict of the laws that hold two texts' sums against each other; 64 bits: a change behind the last whole stripe is told; seeds are told: plain facts. -/
import Derived.Test.YtnkcbkfccbfjpaaZj
namespace Go.Proofs.Ytnkcbkfccbfjpaa.XxhP
theorem i64_of {a : Int} (h : (Lit.int .i64 a).wf = true) : -9223372036854775808 ≤ a ∧ a ≤ 9223372036854775807 := by
  simp only [Lit.wf, show IntKind.i64.min = -9223372036854775808 from rfl, show IntKind.i64.max = 9223372036854775807 from rfl, Bool.and_eq_true, decide_eq_true_eq] at h
  omega
end Go.Proofs.Ytnkcbkfccbfjpaa.XxhP
namespace Go.Proofs.Ytnkcbkfccbfjpaa.X
open Go.RowKit Go.Proofs.Ytnkcbkfccbfjpaa.XxhW Go.Proofs.Ytnkcbkfccbfjpaa.XxhP
set_option linter.unusedVariables false
set_option linter.unusedSimpArgs false
theorem strs_inj : ∀ (x b : List Int), bytesB x = true → bytesB b = true → Lib.bytesOf x = Lib.bytesOf b → x = b := by
  intro x
  induction x with
  | nil =>
    intro b _ _ h
    cases b with
    | nil => rfl
    | cons c b => simp [Lib.bytesOf] at h
  | cons c x ih =>
    intro b hx hb h
    cases b with
    | nil => simp [Lib.bytesOf] at h
    | cons d b =>
      simp only [Lib.bytesOf, List.map_cons, List.cons.injEq] at h
      unfold bytesB at hx hb
      rw [List.all_cons, Bool.and_eq_true, decide_eq_true_eq] at hx hb
      have h1 := congrArg UInt8.toNat h.1
      rw [UInt8.toNat_ofNat', UInt8.toNat_ofNat'] at h1
      have h2 := ih b hx.2 hb.2 h.2
      have h3 : c = d := by omega
      rw [h2, h3]
theorem verdict {p q : Int} {x b : List Int} (hx : bytesB x = true) (hb : bytesB b = true) (h : p = q → x = b) (h' : x = b → p = q) : ((p == q) == ((strOfNums x).toList == (strOfNums b).toList)) = true := by
  by_cases e : x = b
  · rw [h' e, e]
    simp
  · have e1 : (p == q) = false := by
      rw [beq_eq_false_iff_ne]
      exact fun hp => e (h hp)
    have e2 : ((strOfNums x).toList == (strOfNums b).toList) = false := by
      rw [beq_eq_false_iff_ne, Lib.strOfNums_toList, Lib.strOfNums_toList]
      exact fun hs => e (strs_inj x b hx hb hs)
    rw [e1, e2]
    rfl
theorem at_set {x : List Int} {k : Nat} (v : Int) {i : Nat} (h : i ≠ k) : at' (x.set k v) i = at' x i := by
  unfold at'
  rw [List.getD_eq_getElem?_getD, List.getD_eq_getElem?_getD, List.getElem?_set_ne (fun e => h e.symm)]
theorem bytesB_set {x : List Int} (k : Nat) {v : Int} (hv : 0 ≤ v ∧ v < 256) (hx : bytesB x = true) : bytesB (x.set k v) = true := by
  unfold bytesB at hx ⊢
  rw [List.all_eq_true] at hx ⊢
  intro y hy
  rcases List.mem_or_eq_of_mem_set hy with h | h
  · exact hx y h
  · rw [h]
    exact decide_eq_true hv
theorem words64_fo (m : Nat) (h : Int) (l : List Int) : words64 m h l = fo word64 m h (fun i => le64 (l.drop (8 * i))) := by
  induction m with
  | zero => rfl
  | succ m ih => rw [ewords_snoc, ih]; rfl
theorem bytes64_fo (h : Int) (l : List Int) : ∀ m, m ≤ l.length → bytes64 h (l.take m) = fo byte64 m h (fun i => at' l i) := by
  intro m
  induction m with
  | zero => intro _; rw [List.take_zero]; rfl
  | succ m ih => intro hm; rw [ebytes_snoc _ _ _ (by omega), ih (by omega)]; rfl
theorem bytes64_all (h : Int) (l : List Int) : bytes64 h l = fo byte64 l.length h (fun i => at' l i) := by
  have := bytes64_fo h l l.length (Nat.le_refl _)
  rwa [List.take_length] at this
theorem le64_eq (l : List Int) (k : Nat) : le64 (l.drop k) = le32 (l.drop k) + le32 (l.drop (k + 4)) * 4294967296 := by
  unfold le64
  rw [List.drop_drop]
theorem le64_same {x b : List Int} {k : Nat} (h : ∀ i, k ≤ i → i < k + 8 → at' x i = at' b i) : le64 (x.drop k) = le64 (b.drop k) := by
  rw [le64_eq, le64_eq, le32_same (fun i h1 h2 => h i h1 (by omega)), le32_same (fun i h1 h2 => h i (by omega) (by omega))]
theorem le64_inj {x b : List Int} {k : Nat} (hx : Bytes x) (hb : Bytes b) (h : le64 (x.drop k) = le64 (b.drop k)) : ∀ i, k ≤ i → i < k + 8 → at' x i = at' b i := by
  rw [le64_eq, le64_eq] at h
  have a := le32_range _ (hx.drop k)
  have a' := le32_range _ (hb.drop k)
  have c := le32_range _ (hx.drop (k + 4))
  have c' := le32_range _ (hb.drop (k + 4))
  have e1 : le32 (x.drop k) = le32 (b.drop k) := by omega
  have e2 : le32 (x.drop (k + 4)) = le32 (b.drop (k + 4)) := by omega
  intro i h1 h2
  by_cases hi : i < k + 4
  · exact le32_inj hx hb e1 i h1 hi
  · exact le32_inj hx hb e2 i (by omega) (by omega)
theorem le64_rng {l : List Int} (h : Bytes l) (k : Nat) : W64 (le64 (l.drop k)) := by
  rw [le64_eq]
  have a := le32_range _ (h.drop k)
  have c := le32_range _ (h.drop (k + 4))
  exact ⟨by omega, by omega⟩
theorem byte_u64 {x : Int} (h : 0 ≤ x ∧ x < 256) : W64 x := ⟨h.1, by omega⟩
def wds (R : Nat) (h : Int) (r : List Int) : Int := fo word64 (R / 8) h (fun i => le64 (r.drop (8 * i)))
theorem tail64_small (h : Int) (r : List Int) (R : Nat) (hR : r.length = R) (c : R - 8 * (R / 8) < 4) :
    tail64 h r = fin64 (fo byte64 (R - 8 * (R / 8)) (wds R h r) (fun i => at' r (8 * (R / 8) + i))) := by
  subst hR
  have e1 : (rest 8 r).length = r.length - 8 * (r.length / 8) := by rw [rest, List.length_drop]
  unfold tail64 mid64 rest64
  rw [if_neg (by omega), if_neg (by omega), words64_fo, bytes64_all, e1]
  congr 1
  apply fo_congr
  intro i hi
  rw [rest, at_drop]
theorem tail64_half (h : Int) (r : List Int) (R : Nat) (hR : r.length = R) (c : 4 ≤ R - 8 * (R / 8)) :
    tail64 h r = fin64 (fo byte64 (R - 8 * (R / 8) - 4) (half64 (wds R h r) (le32 (r.drop (8 * (R / 8))))) (fun i => at' r (8 * (R / 8) + 4 + i))) := by
  subst hR
  have e1 : (rest 8 r).length = r.length - 8 * (r.length / 8) := by rw [rest, List.length_drop]
  unfold tail64 mid64 rest64
  rw [if_pos (by omega), if_pos (by omega), words64_fo, bytes64_all, List.length_drop, e1]
  congr 1
  apply fo_congr
  intro i hi
  rw [rest, at_drop, at_drop]
  congr 1
  omega
theorem wds_range (R : Nat) {h : Int} (r : List Int) (hh : W64 h) : W64 (wds R h r) := fo_range (fun h u => word64_range h u) _ _ _ hh
/-- Behind the words the tail is one-to-one in what stands before it. -/
theorem tail64_state {h h' : Int} (hh : W64 h) (hh' : W64 h') (r : List Int) (e : tail64 h r = tail64 h' r) : h = h' := by
  have byteS := fo_state (W := W64) (fun h u => byte64_range h u) (fun a b e => byte64_state a b e)
  have wordS := fo_state (W := W64) (fun h u => word64_range h u) (fun a b e => word64_state a b e)
  have wr := wds_range r.length r hh
  have wr' := wds_range r.length r hh'
  by_cases c : 4 ≤ r.length - 8 * (r.length / 8)
  · rw [tail64_half _ r _ rfl c, tail64_half _ r _ rfl c] at e
    have e1 := fin64_inj (fo_range (fun h u => byte64_range h u) _ _ _ (half64_range _ _)) (fo_range (fun h u => byte64_range h u) _ _ _ (half64_range _ _)) e
    have e2 := byteS _ _ _ _ (half64_range _ _) (half64_range _ _) e1
    have e3 := half64_state wr wr' e2
    exact wordS _ _ _ _ hh hh' e3
  · rw [tail64_small _ r _ rfl (by omega), tail64_small _ r _ rfl (by omega)] at e
    have e1 := fin64_inj (fo_range (fun h u => byte64_range h u) _ _ _ wr) (fo_range (fun h u => byte64_range h u) _ _ _ wr') e
    have e3 := byteS _ _ _ _ wr wr' e1
    exact wordS _ _ _ _ hh hh' e3
theorem tail64_one {h : Int} (hh : W64 h) (r t : List Int) (hl : r.length = t.length) (hr : Bytes r) (ht : Bytes t) (p m : Nat) (same : ∀ i, ¬(p ≤ i ∧ i < p + m) → at' r i = at' t i)
    (hp : (m = 8 ∧ p % 8 = 0 ∧ p + 8 ≤ t.length) ∨ (m = 1 ∧ p < t.length ∧ t.length < p / 4 * 4 + 4)) (e : tail64 h r = tail64 h t) : r = t := by
  obtain ⟨R, hR⟩ : ∃ R, t.length = R := ⟨_, rfl⟩
  rw [hR] at hp
  have byteR := fun m => fo_range (W := W64) (F := byte64) (fun h u => byte64_range h u) m
  have byteS := fo_state (W := W64) (fun h u => byte64_range h u) (fun a b e => byte64_state a b e)
  have wr := wds_range R r hh
  have wt := wds_range R t hh
  rcases hp with ⟨rfl, h8, hpR⟩ | ⟨rfl, hpR, hp4⟩
  · have key : wds R h r = wds R h t := by
      by_cases c : 4 ≤ R - 8 * (R / 8)
      · rw [tail64_half _ r _ (hl.trans hR) c, tail64_half _ t _ hR c] at e
        have e1 := fin64_inj (byteR _ _ _ (half64_range _ _)) (byteR _ _ _ (half64_range _ _)) e
        rw [fo_congr _ _ _ (fun i => at' t (8 * (R / 8) + 4 + i)) (fun i hi => same _ (by omega))] at e1
        have e2 := byteS _ _ _ _ (half64_range _ _) (half64_range _ _) e1
        rw [le32_same (x := r) (b := t) (k := 8 * (R / 8)) (fun i h1 h2 => same i (by omega))] at e2
        exact half64_state wr wt e2
      · rw [tail64_small _ r _ (hl.trans hR) (by omega), tail64_small _ t _ hR (by omega)] at e
        have e1 := fin64_inj (byteR _ _ _ wr) (byteR _ _ _ wt) e
        rw [fo_congr _ _ _ (fun i => at' t (8 * (R / 8) + i)) (fun i hi => same _ (by omega))] at e1
        exact byteS _ _ _ _ wr wt e1
    unfold wds at key
    have h3 := fo_one (W := W64) (U := W64) (fun h u => word64_range h u) (fun a b e => word64_state a b e) (fun a b c e => word64_unit a b c e) (R / 8) (fun i => le64 (r.drop (8 * i))) (fun i => le64 (t.drop (8 * i))) (p / 8) (by omega)
      (fun i hi => le64_same (fun j h1 h2 => same j (by omega))) (le64_rng hr _) (le64_rng ht _) _ hh key
    apply ext_at hl
    intro i
    by_cases hi : p ≤ i ∧ i < p + 8
    · have e8 : 8 * (p / 8) = p := by omega
      refine le64_inj hr ht h3 i (by omega) (by omega)
    · exact same i hi
  · have kw : wds R h r = wds R h t := by
      unfold wds
      exact fo_congr _ _ _ _ (fun i hi => le64_same (fun j h1 h2 => same j (by omega)))
    have kb : at' r p = at' t p := by
      by_cases c : 4 ≤ R - 8 * (R / 8)
      · rw [tail64_half _ r _ (hl.trans hR) c, tail64_half _ t _ hR c, kw, le32_same (x := r) (b := t) (k := 8 * (R / 8)) (fun i h1 h2 => same i (by omega))] at e
        have e1 := fin64_inj (byteR _ _ _ (half64_range _ _)) (byteR _ _ _ (half64_range _ _)) e
        have h3 := fo_one (W := W64) (U := W64) (fun h u => byte64_range h u) (fun a b e => byte64_state a b e) (fun a b c e => byte64_unit a b c e) (R - 8 * (R / 8) - 4) (fun i => at' r (8 * (R / 8) + 4 + i)) (fun i => at' t (8 * (R / 8) + 4 + i)) (p - (8 * (R / 8) + 4)) (by omega)
          (fun i hi => same _ (by omega)) (byte_u64 (hr _)) (byte_u64 (ht _)) _ (half64_range _ _) e1
        have e4 : 8 * (R / 8) + 4 + (p - (8 * (R / 8) + 4)) = p := by omega
        simp only [e4] at h3
        exact h3
      · rw [tail64_small _ r _ (hl.trans hR) (by omega), tail64_small _ t _ hR (by omega), kw] at e
        have e1 := fin64_inj (byteR _ _ _ wt) (byteR _ _ _ wt) e
        have h3 := fo_one (W := W64) (U := W64) (fun h u => byte64_range h u) (fun a b e => byte64_state a b e) (fun a b c e => byte64_unit a b c e) (R - 8 * (R / 8)) (fun i => at' r (8 * (R / 8) + i)) (fun i => at' t (8 * (R / 8) + i)) (p - (8 * (R / 8))) (by omega)
          (fun i hi => same _ (by omega)) (byte_u64 (hr _)) (byte_u64 (ht _)) _ wt e1
        have e4 : 8 * (R / 8) + (p - (8 * (R / 8))) = p := by omega
        simp only [e4] at h3
        exact h3
    apply ext_at hl
    intro i
    by_cases hi : i = p
    · rw [hi]; exact kb
    · exact same i (by omega)
theorem run64_same (n : Nat) (v : V4) (x b : List Int) (h : ∀ j, j < 32 * n → at' x j = at' b j) : run64 n v x = run64 n v b := by
  induction n with
  | zero => rfl
  | succ n ih =>
    rw [erun_snoc, erun_snoc, ih (fun j hj => h j (by omega))]
    unfold stripe64
    simp only [List.drop_drop]
    rw [le64_same (fun j h1 h2 => h j (by omega)), le64_same (fun j h1 h2 => h j (by omega)), le64_same (fun j h1 h2 => h j (by omega)), le64_same (fun j h1 h2 => h j (by omega))]
theorem sum64_one (s : Int) (x b : List Int) (hl : x.length = b.length) (hx : Bytes x) (hb : Bytes b) (p m : Nat) (same : ∀ i, ¬(32 * (b.length / 32) + p ≤ i ∧ i < 32 * (b.length / 32) + p + m) → at' x i = at' b i)
    (hp : (m = 8 ∧ p % 8 = 0 ∧ p + 8 ≤ b.length - 32 * (b.length / 32)) ∨ (m = 1 ∧ p < b.length - 32 * (b.length / 32) ∧ b.length - 32 * (b.length / 32) < p / 4 * 4 + 4)) (e : sum64 s x = sum64 s b) : x = b := by
  unfold sum64 at e
  rw [hl, run64_same (b.length / 32) (init64 s) x b (fun j hj => same j (by omega))] at e
  have lr : (rest 32 b).length = b.length - 32 * (b.length / 32) := by rw [rest, List.length_drop]
  have lx : (rest 32 x).length = (rest 32 b).length := by rw [lr, rest, List.length_drop, hl]
  have ar : ∀ i, at' (rest 32 b) i = at' b (32 * (b.length / 32) + i) := fun i => by rw [rest, at_drop]
  have ax : ∀ i, at' (rest 32 x) i = at' x (32 * (b.length / 32) + i) := fun i => by rw [rest, at_drop, hl]
  have br : Bytes (rest 32 b) := hb.drop _
  have bx : Bytes (rest 32 x) := hx.drop _
  have key := tail64_one (w64_mod _) (rest 32 x) (rest 32 b) lx bx br p m (fun i hi => by rw [ar, ax]; exact same _ (by omega)) (by rw [lr]; exact hp) e
  apply ext_at hl
  intro i
  by_cases hi : i < 32 * (b.length / 32)
  · exact same i (by omega)
  · have := congrArg (fun z => at' z (i - 32 * (b.length / 32))) key
    simp only [ar, ax] at this
    rwa [show 32 * (b.length / 32) + (i - 32 * (b.length / 32)) = i by omega] at this
/-- Of a short text different seeds have different sums. -/
theorem sum32_seed {s t : Int} (hs : W32 s) (ht : W32 t) (l : List Int) (hl : l.length < 16) (e : sum32 s l = sum32 t l) : s = t := by
  obtain ⟨N, hN⟩ : ∃ N, l.length = N := ⟨_, rfl⟩
  rw [sum32_fo s l N hN, sum32_fo t l N hN] at e
  have byteS := fo_state (W := W32) (fun h u => byte32_range h u) (fun a b e => byte32_state a b e)
  have wordS := fo_state (W := W32) (fun h u => word32_range h u) (fun a b e => word32_state a b e)
  have hB : ∀ n (h : Int) u, W32 h → W32 (fo byte32 n h u) := fun n h u hh => fo_range (fun h u => byte32_range h u) _ _ _ hh
  have hW : ∀ n (h : Int) u, W32 h → W32 (fo word32 n h u) := fun n h u hh => fo_range (fun h u => word32_range h u) _ _ _ hh
  have e1 := fin32_inj (hB _ _ _ (hW _ _ _ (w32_mod _))) (hB _ _ _ (hW _ _ _ (w32_mod _))) e
  have e2 := byteS _ _ _ _ (hW _ _ _ (w32_mod _)) (hW _ _ _ (w32_mod _)) e1
  have e3 := wordS _ _ _ _ (w32_mod _) (w32_mod _) e2
  have e4 := add32_inj (head32_range _ _ _) (head32_range _ _ _) e3
  unfold head32 at e4
  rw [if_neg (by omega), if_neg (by omega)] at e4
  exact add32_inj hs ht e4
theorem sum64_seed {s t : Int} (hs : W64 s) (ht : W64 t) (l : List Int) (hl : l.length < 32) (e : sum64 s l = sum64 t l) : s = t := by
  unfold sum64 at e
  have e1 := tail64_state (w64_mod _) (w64_mod _) _ e
  have e2 : ∀ (s : Int) (v : V4), head64 l.length s v = (s + 2870177450012600261) % 18446744073709551616 := fun s v => by unfold head64; rw [if_neg (by omega)]
  rw [e2, e2] at e1
  exact add64_inj hs ht (add64_inj (w64_mod _) (w64_mod _) e1)
end Go.Proofs.Ytnkcbkfccbfjpaa.X
