/- Two texts that differ in one number that is taken have different sums: plain facts. -/
import Derived.Test.YtnkcbkfccbfjpaaZi
namespace Go.Proofs.Ytnkcbkfccbfjpaa.X
open Go.Proofs.Ytnkcbkfccbfjpaa.XxhW
set_option linter.unusedVariables false
set_option linter.unusedSimpArgs false
/-- m numbers are taken, one behind the other. -/
def fo (F : Int → Int → Int) : Nat → Int → (Nat → Int) → Int
  | 0, h, _ => h
  | m + 1, h, u => F (fo F m h u) (u m)
section
variable {F : Int → Int → Int} {W : Int → Prop} {U : Int → Prop}
theorem fo_congr (m : Nat) (h : Int) (u u' : Nat → Int) (e : ∀ i, i < m → u i = u' i) : fo F m h u = fo F m h u' := by
  induction m with
  | zero => rfl
  | succ m ih => rw [fo, fo, ih (fun i hi => e i (by omega)), e m (by omega)]
theorem fo_range (hF : ∀ h u, W (F h u)) (m : Nat) (h : Int) (u : Nat → Int) (hh : W h) : W (fo F m h u) := by
  cases m with
  | zero => exact hh
  | succ m => exact hF _ _
theorem fo_state (hF : ∀ h u, W (F h u)) (hS : ∀ {h h' u : Int}, W h → W h' → F h u = F h' u → h = h') (m : Nat) (u : Nat → Int) : ∀ h h' : Int, W h → W h' → fo F m h u = fo F m h' u → h = h' := by
  induction m with
  | zero => intro h h' _ _ e; exact e
  | succ m ih => intro h h' a b e; exact ih h h' a b (hS (fo_range hF m h u a) (fo_range hF m h' u b) e)
theorem fo_one (hF : ∀ h u, W (F h u)) (hS : ∀ {h h' u : Int}, W h → W h' → F h u = F h' u → h = h') (hU : ∀ {h u u' : Int}, W h → U u → U u' → F h u = F h u' → u = u') (m : Nat) (u u' : Nat → Int) (j : Nat) (hj : j < m)
    (same : ∀ i, i ≠ j → u i = u' i) (hu : U (u j)) (hu' : U (u' j)) : ∀ h : Int, W h → fo F m h u = fo F m h u' → u j = u' j := by
  induction m with
  | zero => omega
  | succ m ih =>
    intro h hh e
    rw [fo, fo] at e
    by_cases hm : j = m
    · subst hm
      rw [fo_congr j h u u' (fun i hi => same i (by omega))] at e
      exact hU (fo_range hF j h u' hh) hu hu' e
    · rw [same m (by omega)] at e
      exact ih (by omega) h hh (hS (fo_range hF m h u hh) (fo_range hF m h u' hh) e)
end
theorem words32_fo (m : Nat) (h : Int) (l : List Int) : words32 m h l = fo word32 m h (fun i => le32 (l.drop (4 * i))) := by
  induction m with
  | zero => rfl
  | succ m ih => rw [words_snoc, ih]; rfl
theorem bytes32_fo (h : Int) (l : List Int) : ∀ m, m ≤ l.length → bytes32 h (l.take m) = fo byte32 m h (fun i => at' l i) := by
  intro m
  induction m with
  | zero => intro _; rw [List.take_zero]; rfl
  | succ m ih => intro hm; rw [bytes_snoc _ _ _ (by omega), ih (by omega)]; rfl
theorem run32_fo (m : Nat) (v : V4) (l : List Int) : run32 m v l = ⟨fo step32 m v.a (fun i => le32 (l.drop (16 * i))), fo step32 m v.b (fun i => le32 (l.drop (16 * i + 4))), fo step32 m v.c (fun i => le32 (l.drop (16 * i + 8))), fo step32 m v.d (fun i => le32 (l.drop (16 * i + 12)))⟩ := by
  induction m with
  | zero => rfl
  | succ m ih =>
    rw [run_snoc, ih]
    simp only [stripe32, List.drop_drop]
    rfl
theorem le32_drop (l : List Int) (k : Nat) : le32 (l.drop k) = at' l k + at' l (k + 1) * 256 + at' l (k + 2) * 65536 + at' l (k + 3) * 16777216 := by
  unfold le32
  rw [at_drop, at_drop, at_drop, at_drop]
  rfl
theorem le32_same {x b : List Int} {k : Nat} (h : ∀ i, k ≤ i → i < k + 4 → at' x i = at' b i) : le32 (x.drop k) = le32 (b.drop k) := by
  rw [le32_drop, le32_drop, h k (by omega) (by omega), h (k + 1) (by omega) (by omega), h (k + 2) (by omega) (by omega), h (k + 3) (by omega) (by omega)]
theorem le32_inj {x b : List Int} {k : Nat} (hx : Bytes x) (hb : Bytes b) (h : le32 (x.drop k) = le32 (b.drop k)) : ∀ i, k ≤ i → i < k + 4 → at' x i = at' b i := by
  rw [le32_drop, le32_drop] at h
  have a0 := hx k
  have a1 := hx (k + 1)
  have a2 := hx (k + 2)
  have a3 := hx (k + 3)
  have b0 := hb k
  have b1 := hb (k + 1)
  have b2 := hb (k + 2)
  have b3 := hb (k + 3)
  have e : at' x k = at' b k ∧ at' x (k + 1) = at' b (k + 1) ∧ at' x (k + 2) = at' b (k + 2) ∧ at' x (k + 3) = at' b (k + 3) := by omega
  obtain ⟨e0, e1, e2, e3⟩ := e
  intro i h1 h2
  have : i = k ∨ i = k + 1 ∨ i = k + 2 ∨ i = k + 3 := by omega
  rcases this with rfl | rfl | rfl | rfl
  · exact e0
  · exact e1
  · exact e2
  · exact e3
theorem ext_at {x b : List Int} (hl : x.length = b.length) (h : ∀ i, at' x i = at' b i) : x = b := by
  apply List.ext_getElem hl
  intro i h1 h2
  have := h i
  simpa [at', List.getD_eq_getElem?_getD, List.getElem?_eq_getElem h1, List.getElem?_eq_getElem h2] using this
/-- The sum of 32 bits as folds over the text. -/
theorem sum32_fo (s : Int) (l : List Int) (N : Nat) (hN : l.length = N) : sum32 s l = fin32 (fo byte32 ((N - 16 * (N / 16)) - 4 * ((N - 16 * (N / 16)) / 4)) (fo word32 ((N - 16 * (N / 16)) / 4)
    ((head32 N s (run32 (N / 16) (init32 s) l) + (N : Int) % 4294967296) % 4294967296) (fun i => le32 (l.drop (16 * (N / 16) + 4 * i)))) (fun i => at' l (16 * (N / 16) + 4 * ((N - 16 * (N / 16)) / 4) + i))) := by
  subst hN
  have e1 : (rest 16 l).length = l.length - 16 * (l.length / 16) := by unfold rest; rw [List.length_drop]
  have e2 : (rest 4 (rest 16 l)).length = (l.length - 16 * (l.length / 16)) - 4 * ((l.length - 16 * (l.length / 16)) / 4) := by rw [rest, List.length_drop, e1]
  rw [sum_eq, tail32, words32_fo, e1]
  have e3 := bytes32_fo (fo word32 ((l.length - 16 * (l.length / 16)) / 4) ((head32 l.length s (run32 (l.length / 16) (init32 s) l) + (l.length : Int) % 4294967296) % 4294967296) (fun i => le32 ((rest 16 l).drop (4 * i)))) (rest 4 (rest 16 l)) _ (Nat.le_refl _)
  rw [List.take_length] at e3
  rw [e3, e2]
  have e4 : (fun i => le32 ((rest 16 l).drop (4 * i))) = fun i => le32 (l.drop (16 * (l.length / 16) + 4 * i)) := by
    funext i; unfold rest; rw [List.drop_drop]
  have e5 : (fun i => at' (rest 4 (rest 16 l)) i) = fun i => at' l (16 * (l.length / 16) + 4 * ((l.length - 16 * (l.length / 16)) / 4) + i) := by
    funext i
    rw [show rest 4 (rest 16 l) = (rest 16 l).drop (4 * ((l.length - 16 * (l.length / 16)) / 4)) by rw [rest, e1], at_drop]
    unfold rest
    rw [at_drop]
    congr 1
    omega
  rw [e4, e5]
theorem head32_range (N : Nat) (s : Int) (v : V4) : W32 (head32 N s v) := by
  unfold head32
  split
  · unfold merge32; exact w32_mod _
  · exact w32_mod _
theorem byte_u {x : Int} (h : 0 ≤ x ∧ x < 256) : W32 x := ⟨h.1, by omega⟩
set_option maxHeartbeats 1000000 in
theorem sum32_one (s : Int) (hs : W32 s) (x b : List Int) (hl : x.length = b.length) (hbx : Bytes x) (hbb : Bytes b) (p m : Nat) (same : ∀ i, ¬(p ≤ i ∧ i < p + m) → at' x i = at' b i)
    (hp : (m = 4 ∧ p % 4 = 0 ∧ p + 4 ≤ b.length) ∨ (m = 1 ∧ p < b.length ∧ b.length < p / 4 * 4 + 4)) (h : sum32 s x = sum32 s b) : x = b := by
  obtain ⟨N, hN⟩ : ∃ N, b.length = N := ⟨_, rfl⟩
  rw [hN] at hp
  rw [sum32_fo s x N (hl.trans hN), sum32_fo s b N hN] at h
  obtain ⟨q, hq⟩ : ∃ q, q = N / 16 := ⟨_, rfl⟩
  obtain ⟨K, hK⟩ : ∃ K, K = (N - 16 * q) / 4 := ⟨_, rfl⟩
  rw [← hq, ← hK] at h
  have ws := fo_range (W := W32) (fun h u => step32_range h u)
  have hH : ∀ l, W32 ((head32 N s (run32 q (init32 s) l) + (N : Int) % 4294967296) % 4294967296) := fun l => w32_mod _
  have hWr : ∀ l, W32 (fo word32 K ((head32 N s (run32 q (init32 s) l) + (N : Int) % 4294967296) % 4294967296) (fun i => le32 (l.drop (16 * q + 4 * i)))) := fun l => fo_range (fun h u => word32_range h u) _ _ _ (hH l)
  have hBr : ∀ l, W32 (fo byte32 ((N - 16 * q) - 4 * K) (fo word32 K ((head32 N s (run32 q (init32 s) l) + (N : Int) % 4294967296) % 4294967296) (fun i => le32 (l.drop (16 * q + 4 * i)))) (fun i => at' l (16 * q + 4 * K + i))) := fun l => fo_range (fun h u => byte32_range h u) _ _ _ (hWr l)
  have h1 := fin32_inj (hBr x) (hBr b) h
  have lanes : ∀ c : Nat, (∀ i, i < q → ∀ j, 16 * i + c ≤ j → j < 16 * i + c + 4 → at' x j = at' b j) → ∀ v, fo step32 q v (fun i => le32 (x.drop (16 * i + c))) = fo step32 q v (fun i => le32 (b.drop (16 * i + c))) := fun c hc v =>
    fo_congr q v _ _ (fun i hi => le32_same (hc i hi))
  have wordsE : (∀ j, 16 * q ≤ j → j < 16 * q + 4 * K → at' x j = at' b j) → ∀ v, fo word32 K v (fun i => le32 (x.drop (16 * q + 4 * i))) = fo word32 K v (fun i => le32 (b.drop (16 * q + 4 * i))) := fun hc v =>
    fo_congr K v _ _ (fun i hi => le32_same (fun j h1 h2 => hc j (by omega) (by omega)))
  have bytesE : (∀ j, 16 * q + 4 * K ≤ j → at' x j = at' b j) → ∀ v, fo byte32 ((N - 16 * q) - 4 * K) v (fun i => at' x (16 * q + 4 * K + i)) = fo byte32 ((N - 16 * q) - 4 * K) v (fun i => at' b (16 * q + 4 * K + i)) := fun hc v =>
    fo_congr _ v _ _ (fun i hi => hc _ (by omega))
  have runE : (∀ j, j < 16 * q → at' x j = at' b j) → run32 q (init32 s) x = run32 q (init32 s) b := fun hc => by
    rw [run32_fo, run32_fo, lanes 4 (fun i hi j a b => hc j (by omega)), lanes 8 (fun i hi j a b => hc j (by omega)), lanes 12 (fun i hi j a b => hc j (by omega))]
    have := lanes 0 (fun i hi j a b => hc j (by omega))
    simp only [Nat.add_zero] at this
    rw [this]
  have byteS := fo_state (W := W32) (fun h u => byte32_range h u) (fun a b e => byte32_state a b e)
  have wordS := fo_state (W := W32) (fun h u => word32_range h u) (fun a b e => word32_state a b e)
  have leR : ∀ l : List Int, Bytes l → ∀ k, W32 (le32 (l.drop k)) := fun l hb k => le32_range _ (hb.drop k)
  rcases hp with ⟨rfl, hp4, hpN⟩ | ⟨rfl, hpN, hpl⟩
  · have fin : (le32 (x.drop p) = le32 (b.drop p)) → x = b := fun e => by
      apply ext_at hl
      intro i
      by_cases hi : p ≤ i ∧ i < p + 4
      · exact le32_inj hbx hbb e i hi.1 hi.2
      · exact same i hi
    rw [bytesE (fun j hj => same j (by omega))] at h1
    have h2 := byteS _ _ _ _ (hWr x) (hWr b) h1
    by_cases hst : 16 * q ≤ p
    · rw [runE (fun j hj => same j (by omega))] at h2
      have h3 := fo_one (W := W32) (U := W32) (fun h u => word32_range h u) (fun a b e => word32_state a b e) (fun _ a b e => word32_unit a b e) K (fun i => le32 (x.drop (16 * q + 4 * i))) (fun i => le32 (b.drop (16 * q + 4 * i))) ((p - 16 * q) / 4) (by omega)
        (fun i hi => le32_same (fun j h1 h2 => same j (by omega))) (leR x hbx _) (leR b hbb _) _ (hH b) h2
      apply fin
      have e : 16 * q + 4 * ((p - 16 * q) / 4) = p := by omega
      rw [← e]
      exact h3
    · rw [wordsE (fun j a c => same j (by omega))] at h2
      have h3 := wordS _ _ _ _ (hH x) (hH b) h2
      have h4 : head32 N s (run32 q (init32 s) x) = head32 N s (run32 q (init32 s) b) := by
        have r1 := head32_range N s (run32 q (init32 s) x)
        have r2 := head32_range N s (run32 q (init32 s) b)
        exact add32_inj r1 r2 h3
      have hbig : 16 ≤ N := by omega
      unfold head32 at h4
      rw [if_pos hbig, if_pos hbig, run32_fo, run32_fo] at h4
      have hv := good_init s hs
      obtain ⟨va, vb, vc, vd⟩ := hv
      have one := fun (c : Nat) (v : Int) (hv : W32 v) (hc : p % 16 = c) => fo_one (W := W32) (U := W32) (fun h u => step32_range h u) (fun a b e => step32_state a b e) (fun _ a b e => step32_unit a b e) q (fun i => le32 (x.drop (16 * i + c))) (fun i => le32 (b.drop (16 * i + c))) (p / 16) (by omega)
        (fun i hi => le32_same (fun j h1 h2 => same j (by omega))) (leR x hbx _) (leR b hbb _) v hv
      have lane0 : p % 16 ≠ 0 → ∀ v, fo step32 q v (fun i => le32 (x.drop (16 * i))) = fo step32 q v (fun i => le32 (b.drop (16 * i))) := fun hc v => by
        have := lanes 0 (fun i hi j a c => same j (by omega)) v
        simpa only [Nat.add_zero] using this
      have laneC : ∀ c, c % 4 = 0 → c < 16 → p % 16 ≠ c → ∀ v, fo step32 q v (fun i => le32 (x.drop (16 * i + c))) = fo step32 q v (fun i => le32 (b.drop (16 * i + c))) := fun c c0 c1 hc v => lanes c (fun i hi j a e => same j (by omega)) v
      have merge_inj : ∀ (k : Nat) (y z r : Int), k ≤ 32 → W32 y → W32 z → (rot32 y k + r) % 4294967296 = (rot32 z k + r) % 4294967296 → y = z := fun k y z r hk hy hz e =>
        rot32_inj k hk hy hz (add32_inj (rot32_range y k hk hy) (rot32_range z k hk hz) e)
      have hc4 : p % 16 = 0 ∨ p % 16 = 4 ∨ p % 16 = 8 ∨ p % 16 = 12 := by omega
      unfold merge32 at h4
      simp only at h4
      apply fin
      rcases hc4 with hc | hc | hc | hc
      · rw [laneC 4 (by omega) (by omega) (by omega), laneC 8 (by omega) (by omega) (by omega), laneC 12 (by omega) (by omega) (by omega)] at h4
        have e : fo step32 q (init32 s).a (fun i => le32 (x.drop (16 * i))) = fo step32 q (init32 s).a (fun i => le32 (b.drop (16 * i))) := merge_inj 1 _ _ (rot32 (fo step32 q (init32 s).b (fun i => le32 (b.drop (16 * i + 4)))) 7 + rot32 (fo step32 q (init32 s).c (fun i => le32 (b.drop (16 * i + 8)))) 12 + rot32 (fo step32 q (init32 s).d (fun i => le32 (b.drop (16 * i + 12)))) 18) (by decide) (ws q _ _ va) (ws q _ _ va) (by omega)
        have e2 := one 0 _ va hc e
        rw [show p = 16 * (p / 16) + 0 by omega]
        exact e2
      · rw [lane0 (by omega), laneC 8 (by omega) (by omega) (by omega), laneC 12 (by omega) (by omega) (by omega)] at h4
        have e : fo step32 q (init32 s).b (fun i => le32 (x.drop (16 * i + 4))) = fo step32 q (init32 s).b (fun i => le32 (b.drop (16 * i + 4))) := merge_inj 7 _ _ (rot32 (fo step32 q (init32 s).a (fun i => le32 (b.drop (16 * i)))) 1 + rot32 (fo step32 q (init32 s).c (fun i => le32 (b.drop (16 * i + 8)))) 12 + rot32 (fo step32 q (init32 s).d (fun i => le32 (b.drop (16 * i + 12)))) 18) (by decide) (ws q _ _ vb) (ws q _ _ vb) (by omega)
        have e2 := one 4 _ vb hc e
        rw [show p = 16 * (p / 16) + 4 by omega]
        exact e2
      · rw [lane0 (by omega), laneC 4 (by omega) (by omega) (by omega), laneC 12 (by omega) (by omega) (by omega)] at h4
        have e : fo step32 q (init32 s).c (fun i => le32 (x.drop (16 * i + 8))) = fo step32 q (init32 s).c (fun i => le32 (b.drop (16 * i + 8))) := merge_inj 12 _ _ (rot32 (fo step32 q (init32 s).a (fun i => le32 (b.drop (16 * i)))) 1 + rot32 (fo step32 q (init32 s).b (fun i => le32 (b.drop (16 * i + 4)))) 7 + rot32 (fo step32 q (init32 s).d (fun i => le32 (b.drop (16 * i + 12)))) 18) (by decide) (ws q _ _ vc) (ws q _ _ vc) (by omega)
        have e2 := one 8 _ vc hc e
        rw [show p = 16 * (p / 16) + 8 by omega]
        exact e2
      · rw [lane0 (by omega), laneC 4 (by omega) (by omega) (by omega), laneC 8 (by omega) (by omega) (by omega)] at h4
        have e : fo step32 q (init32 s).d (fun i => le32 (x.drop (16 * i + 12))) = fo step32 q (init32 s).d (fun i => le32 (b.drop (16 * i + 12))) := merge_inj 18 _ _ (rot32 (fo step32 q (init32 s).a (fun i => le32 (b.drop (16 * i)))) 1 + rot32 (fo step32 q (init32 s).b (fun i => le32 (b.drop (16 * i + 4)))) 7 + rot32 (fo step32 q (init32 s).c (fun i => le32 (b.drop (16 * i + 8)))) 12) (by decide) (ws q _ _ vd) (ws q _ _ vd) (by omega)
        have e2 := one 12 _ vd hc e
        rw [show p = 16 * (p / 16) + 12 by omega]
        exact e2
  · rw [runE (fun j hj => same j (by omega)), wordsE (fun j a c => same j (by omega))] at h1
    have h3 := fo_one (W := W32) (U := W32) (fun h u => byte32_range h u) (fun a b e => byte32_state a b e) (fun _ a b e => byte32_unit a b e) ((N - 16 * q) - 4 * K) (fun i => at' x (16 * q + 4 * K + i)) (fun i => at' b (16 * q + 4 * K + i)) (p - (16 * q + 4 * K)) (by omega)
      (fun i hi => same _ (by omega)) (byte_u (hbx _)) (byte_u (hbb _)) _ (hWr b) h1
    apply ext_at hl
    intro i
    by_cases hi : p ≤ i ∧ i < p + 1
    · have e : 16 * q + 4 * K + (p - (16 * q + 4 * K)) = i := by omega
      rw [← e]
      exact h3
    · exact same i hi
end Go.Proofs.Ytnkcbkfccbfjpaa.X
