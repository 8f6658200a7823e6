/- The digests' methods as contracts over what was taken: New, Write, Sum, Len, for 32 and for 64 bits. Conditions: lengths below 2^47, bytes are bytes. Printed by gen_digest.py, mine. -/
import Derived.Test.YtnkcbkfccbfjpaaYY
namespace Go.Proofs.Ytnkcbkfccbfjpaa.XxhW
open Go.RowKit Go.Proofs.YtnkcbkfccbfjpaaW.PrintWords Go.Proofs.YtnkcbkfccbfjpaaW.PrintLast Go.Proofs.YtnkcbkfccbfjpaaW.PrintMore
set_option linter.unusedVariables false
set_option linter.unusedSimpArgs false
/-- A row of one's own outlives whatever leaves its block. -/
theorem own_fr {w w' : World} {B : Nat} {e : TypeId} {size n : Nat} {rv : Value} {xs : List Value} {ok : Nat → Prop} (f : Fr w w' ok) (h : w.ownsRow B e size rv n xs) (hk : ∀ i, some i = rv.ownBlock → ok i) : w'.ownsRow B e size rv n xs := by
  refine ⟨h.1, ?_⟩
  rcases h.2 with h1 | ⟨g, cap, cur, rfl, h2, h3, h4⟩
  · exact .inl h1
  · exact .inr ⟨g, cap, cur, rfl, h2, f.heap h3 (hk g rfl), h4⟩
theorem own_ge {w : World} {B : Nat} {e : TypeId} {size n : Nat} {rv : Value} {xs : List Value} (h : w.ownsRow B e size rv n xs) (i : Nat) (hi : some i = rv.ownBlock) : B ≤ i ∧ i < w.heap.size := by
  rcases h.2 with ⟨rfl, _⟩ | ⟨g, cap, cur, rfl, h2, h3, h4⟩
  · cases hi
  · injection hi with hi
    subst hi
    exact ⟨h2, blk_lt h3⟩
/-- Rounds over a text of whole stripes, then over what follows. -/
theorem run32_app (m : Nat) (y : List Int) : ∀ (n : Nat) (v : X.V4) (x : List Int), x.length = 16 * n → X.run32 (n + m) v (x ++ y) = X.run32 m (X.run32 n v x) y := by
  intro n
  induction n with
  | zero =>
    intro v x hx
    have : x = [] := List.eq_nil_of_length_eq_zero (by omega)
    subst this
    rw [Nat.zero_add]
    rfl
  | succ n ih =>
    intro v x hx
    have h1 : (x ++ y).drop 16 = x.drop 16 ++ y := List.drop_append_of_le_length (by omega)
    have h2 : X.stripe32 v (x ++ y) = X.stripe32 v x := by
      rw [← stripe_take v (x ++ y) (by simp; omega), ← stripe_take v x (by omega), List.take_append_of_le_length (by omega)]
    rw [show n + 1 + m = (n + m) + 1 by omega, X.run32, X.run32, h1, h2]
    exact ih _ _ (by rw [List.length_drop]; omega)
theorem split32 (l b : List Int) : l ++ b = l.take (16 * (l.length / 16)) ++ (X.rest 16 l ++ b) := by
  rw [X.rest, ← List.append_assoc, List.take_append_drop]
theorem run32_all (v : X.V4) (l : List Int) : X.run32 (l.length / 16) v (l.take (16 * (l.length / 16))) = X.run32 (l.length / 16) v l := by
  have h := run32_app 0 (X.rest 16 l) (l.length / 16) v (l.take (16 * (l.length / 16))) (by rw [List.length_take]; omega)
  rw [X.rest, List.take_append_drop] at h
  exact h.symm
theorem rest32_len (l : List Int) : (X.rest 16 l).length = l.length - 16 * (l.length / 16) := by rw [X.rest, List.length_drop]
theorem run32_more (v : X.V4) (l b : List Int) : X.run32 ((X.rest 16 l ++ b).length / 16) (X.run32 (l.length / 16) v l) (X.rest 16 l ++ b) = X.run32 ((l ++ b).length / 16) v (l ++ b) := by
  have e : (l ++ b).length / 16 = l.length / 16 + (X.rest 16 l ++ b).length / 16 := by
    rw [List.length_append, List.length_append, rest32_len]
    omega
  rw [e]
  have h := run32_app ((X.rest 16 l ++ b).length / 16) (X.rest 16 l ++ b) (l.length / 16) v (l.take (16 * (l.length / 16))) (by rw [List.length_take]; omega)
  rw [← split32, run32_all] at h
  exact h.symm
theorem rest32_more (l b : List Int) : X.rest 16 (X.rest 16 l ++ b) = X.rest 16 (l ++ b) := by
  have e : (l ++ b).length / 16 = l.length / 16 + (X.rest 16 l ++ b).length / 16 := by
    rw [List.length_append, List.length_append, rest32_len]
    omega
  have e3 : (l ++ b).drop (16 * ((l ++ b).length / 16)) = (X.rest 16 l ++ b).drop (16 * ((X.rest 16 l ++ b).length / 16)) := by
    rw [e]
    have hk : (l.take (16 * (l.length / 16))).length = 16 * (l.length / 16) := by rw [List.length_take]; omega
    rw [split32 l b, Nat.mul_add, ← List.drop_drop, List.drop_left' hk]
  exact e3.symm
/-- A digest that took l: its numbers at g, the bytes that wait in a row of its own. -/
structure D32 (w : World) (B g : Nat) (s : Int) (l : List Int) (rv : Value) : Prop where
  d : IsD w g rv (l.length : Int) s (X.run32 (l.length / 16) (X.init32 s) l)
  o : w.ownsRow B 5 1 rv (X.rest 16 l).length (nums .u8 (X.rest 16 l))
theorem D32.fr {w w' : World} {B g : Nat} {s : Int} {l : List Int} {rv : Value} {ok : Nat → Prop} (h : D32 w B g s l rv) (f : Fr w w' ok) (h1 : ok g) (h2 : ∀ i, some i = rv.ownBlock → ok i) : D32 w' B g s l rv :=
  ⟨f.heap h.d h1, own_fr f h.o h2⟩
theorem D32.lower {w : World} {B B' g : Nat} {s : Int} {l : List Int} {rv : Value} (h : D32 w B g s l rv) (hb : B' ≤ B) : D32 w B' g s l rv := ⟨h.d, own_lower h.o hb⟩
theorem New32_calls (s : Int) (w : World) (hs : W32 s) :
    Calls Try.prog 26 #[.int .u32 s] w fun e w' => e = .returned (.pointer (some ⟨w.heap.size, 0, none⟩)) ∧ D32 w' w.heap.size w.heap.size s [] (.slice none 0 0) ∧ Below w.heap.size w w' := by
  have H := Aside0.mk (begun_calls s w hs.1 hs.2)
  clear hs
  go_enter Try.func26, Try.ntmps26
  go_wp2_with fail
  refine H.out.mono ?_
  rintro e w1 ⟨rfl, hd, hb⟩
  have HD := Aside0.mk hd
  have HB := Aside0.mk hb
  clear hd hb
  go_wp2
  go_ret
  exact ⟨rfl, ⟨HD.out, own_nil _ _ _ _⟩, HB.out⟩
theorem Write32_calls (A : Option Addr) (c : Nat) (b l : List Int) (g B : Nat) (rv : Value) (s : Int) (w : World) (hr : ReadsInt w .u8 A b.length b) (hb : Bytes (l ++ b))
    (hd : D32 w B g s l rv) (hbase : B ≤ w.heap.size) (hl : l.length + b.length ≤ 140737488355327) :
    Calls Try.prog 28 #[.pointer (some ⟨g, 0, none⟩), .slice A b.length c] w fun e w' => e = .returned (.tuple #[]) ∧
      ∃ rv', D32 w' w.heap.size g s (l ++ b) rv' ∧ Fr w w' (fun i => i ≠ g ∧ some i ≠ rv.ownBlock) := by
  have hb' : Bytes (X.rest 16 l ++ b) := by
    have h := hb.drop (16 * (l.length / 16))
    rwa [List.drop_append_of_le_length (by omega)] at h
  have HC := Aside0.mk (takes_calls A c b (X.rest 16 l) g B l.length rv s (X.run32 (l.length / 16) (X.init32 s) l) w hr hb' hd.d hd.o hbase (by rw [rest32_len]; omega) (by omega))
  rw [run32_more, rest32_more, ← List.length_append] at HC
  clear hr hb hd hbase hl hb'
  go_enter Try.func28, Try.ntmps28
  go_wp2_with fail
  refine HC.out.mono ?_
  rintro e w1 ⟨rfl, rv', h1, h2, h3⟩
  have H1 := Aside0.mk h1
  have H2 := Aside0.mk h2
  have H3 := Aside0.mk h3
  clear h1 h2 h3
  go_wp2
  go_end0
  exact ⟨rfl, rv', ⟨H1.out, H2.out⟩, H3.out⟩
theorem Sum32d_calls (l : List Int) (g B : Nat) (rv : Value) (s : Int) (w : World) (hb : Bytes l) (hs : W32 s) (hd : D32 w B g s l rv) (hl : l.length ≤ 140737488355327) :
    Calls Try.prog 30 #[.pointer (some ⟨g, 0, none⟩)] w fun e w' => e = .returned (.int .u32 (X.sum32 s l)) ∧ ∃ m, w' = w.drewN m := by
  obtain ⟨hd1, ho⟩ := hd
  obtain ⟨A2, c2, rfl, hw2⟩ := own_waits (g := g) ho
  have HQ := Aside0.mk (sum_calls A2 c2 g l.length (X.rest 16 l) s (X.run32 (l.length / 16) (X.init32 s) l) w hd1 hw2.1 hw2.2 (bytes_rest hb 16) (good_run _ _ _ (good_init s hs)) hs (by omega) (Nat.le_trans (rest_le _ _) hl))
  rw [← sum_eq s l] at HQ
  clear hd1 ho hw2 hb hs hl
  go_enter Try.func30, Try.ntmps30
  go_wp2_with fail
  refine HQ.out.mono ?_
  rintro e w1 ⟨rfl, m, rfl⟩
  go_wp2
  go_ret
  exact ⟨rfl, m, rfl⟩
theorem Len32_calls (l : List Int) (g B : Nat) (rv : Value) (s : Int) (w : World) (hd : D32 w B g s l rv) :
    Calls Try.prog 32 #[.pointer (some ⟨g, 0, none⟩)] w fun e w' => e = .returned (.int .u64 (l.length : Int)) ∧ w' = w := by
  have x1 := (IsD.at hd.d 1 (.int .u64 (l.length : Int)) rfl).1
  clear hd
  go_enter Try.func32, Try.ntmps32
  go_wp2
  go_ret
  exact ⟨rfl, rfl⟩
/-- Rounds over a text of whole stripes, then over what follows. -/
theorem run64_app (m : Nat) (y : List Int) : ∀ (n : Nat) (v : X.V4) (x : List Int), x.length = 32 * n → X.run64 (n + m) v (x ++ y) = X.run64 m (X.run64 n v x) y := by
  intro n
  induction n with
  | zero =>
    intro v x hx
    have : x = [] := List.eq_nil_of_length_eq_zero (by omega)
    subst this
    rw [Nat.zero_add]
    rfl
  | succ n ih =>
    intro v x hx
    have h1 : (x ++ y).drop 32 = x.drop 32 ++ y := List.drop_append_of_le_length (by omega)
    have h2 : X.stripe64 v (x ++ y) = X.stripe64 v x := by
      rw [← estripe_take v (x ++ y) (by simp; omega), ← estripe_take v x (by omega), List.take_append_of_le_length (by omega)]
    rw [show n + 1 + m = (n + m) + 1 by omega, X.run64, X.run64, h1, h2]
    exact ih _ _ (by rw [List.length_drop]; omega)
theorem split64 (l b : List Int) : l ++ b = l.take (32 * (l.length / 32)) ++ (X.rest 32 l ++ b) := by
  rw [X.rest, ← List.append_assoc, List.take_append_drop]
theorem run64_all (v : X.V4) (l : List Int) : X.run64 (l.length / 32) v (l.take (32 * (l.length / 32))) = X.run64 (l.length / 32) v l := by
  have h := run64_app 0 (X.rest 32 l) (l.length / 32) v (l.take (32 * (l.length / 32))) (by rw [List.length_take]; omega)
  rw [X.rest, List.take_append_drop] at h
  exact h.symm
theorem rest64_len (l : List Int) : (X.rest 32 l).length = l.length - 32 * (l.length / 32) := by rw [X.rest, List.length_drop]
theorem run64_more (v : X.V4) (l b : List Int) : X.run64 ((X.rest 32 l ++ b).length / 32) (X.run64 (l.length / 32) v l) (X.rest 32 l ++ b) = X.run64 ((l ++ b).length / 32) v (l ++ b) := by
  have e : (l ++ b).length / 32 = l.length / 32 + (X.rest 32 l ++ b).length / 32 := by
    rw [List.length_append, List.length_append, rest64_len]
    omega
  rw [e]
  have h := run64_app ((X.rest 32 l ++ b).length / 32) (X.rest 32 l ++ b) (l.length / 32) v (l.take (32 * (l.length / 32))) (by rw [List.length_take]; omega)
  rw [← split64, run64_all] at h
  exact h.symm
theorem rest64_more (l b : List Int) : X.rest 32 (X.rest 32 l ++ b) = X.rest 32 (l ++ b) := by
  have e : (l ++ b).length / 32 = l.length / 32 + (X.rest 32 l ++ b).length / 32 := by
    rw [List.length_append, List.length_append, rest64_len]
    omega
  have e3 : (l ++ b).drop (32 * ((l ++ b).length / 32)) = (X.rest 32 l ++ b).drop (32 * ((X.rest 32 l ++ b).length / 32)) := by
    rw [e]
    have hk : (l.take (32 * (l.length / 32))).length = 32 * (l.length / 32) := by rw [List.length_take]; omega
    rw [split64 l b, Nat.mul_add, ← List.drop_drop, List.drop_left' hk]
  exact e3.symm
/-- A digest that took l: its numbers at g, the bytes that wait in a row of its own. -/
structure D64 (w : World) (B g : Nat) (s : Int) (l : List Int) (rv : Value) : Prop where
  d : IsE w g rv (l.length : Int) s (X.run64 (l.length / 32) (X.init64 s) l)
  o : w.ownsRow B 5 1 rv (X.rest 32 l).length (nums .u8 (X.rest 32 l))
theorem D64.fr {w w' : World} {B g : Nat} {s : Int} {l : List Int} {rv : Value} {ok : Nat → Prop} (h : D64 w B g s l rv) (f : Fr w w' ok) (h1 : ok g) (h2 : ∀ i, some i = rv.ownBlock → ok i) : D64 w' B g s l rv :=
  ⟨f.heap h.d h1, own_fr f h.o h2⟩
theorem D64.lower {w : World} {B B' g : Nat} {s : Int} {l : List Int} {rv : Value} (h : D64 w B g s l rv) (hb : B' ≤ B) : D64 w B' g s l rv := ⟨h.d, own_lower h.o hb⟩
theorem New64_calls (s : Int) (w : World) (hs : W64 s) :
    Calls Try.prog 27 #[.int .u64 s] w fun e w' => e = .returned (.pointer (some ⟨w.heap.size, 0, none⟩)) ∧ D64 w' w.heap.size w.heap.size s [] (.slice none 0 0) ∧ Below w.heap.size w w' := by
  have H := Aside0.mk (ebegun_calls s w hs.1 hs.2)
  clear hs
  go_enter Try.func27, Try.ntmps27
  go_wp2_with fail
  refine H.out.mono ?_
  rintro e w1 ⟨rfl, hd, hb⟩
  have HD := Aside0.mk hd
  have HB := Aside0.mk hb
  clear hd hb
  go_wp2
  go_ret
  exact ⟨rfl, ⟨HD.out, own_nil _ _ _ _⟩, HB.out⟩
theorem Write64_calls (A : Option Addr) (c : Nat) (b l : List Int) (g B : Nat) (rv : Value) (s : Int) (w : World) (hr : ReadsInt w .u8 A b.length b) (hb : Bytes (l ++ b))
    (hd : D64 w B g s l rv) (hbase : B ≤ w.heap.size) (hl : l.length + b.length ≤ 140737488355327) :
    Calls Try.prog 29 #[.pointer (some ⟨g, 0, none⟩), .slice A b.length c] w fun e w' => e = .returned (.tuple #[]) ∧
      ∃ rv', D64 w' w.heap.size g s (l ++ b) rv' ∧ Fr w w' (fun i => i ≠ g ∧ some i ≠ rv.ownBlock) := by
  have hb' : Bytes (X.rest 32 l ++ b) := by
    have h := hb.drop (32 * (l.length / 32))
    rwa [List.drop_append_of_le_length (by omega)] at h
  have HC := Aside0.mk (etakes_calls A c b (X.rest 32 l) g B l.length rv s (X.run64 (l.length / 32) (X.init64 s) l) w hr hb' hd.d hd.o hbase (by rw [rest64_len]; omega) (by omega))
  rw [run64_more, rest64_more, ← List.length_append] at HC
  clear hr hb hd hbase hl hb'
  go_enter Try.func29, Try.ntmps29
  go_wp2_with fail
  refine HC.out.mono ?_
  rintro e w1 ⟨rfl, rv', h1, h2, h3⟩
  have H1 := Aside0.mk h1
  have H2 := Aside0.mk h2
  have H3 := Aside0.mk h3
  clear h1 h2 h3
  go_wp2
  go_end0
  exact ⟨rfl, rv', ⟨H1.out, H2.out⟩, H3.out⟩
theorem Sum64d_calls (l : List Int) (g B : Nat) (rv : Value) (s : Int) (w : World) (hb : Bytes l) (hs : W64 s) (hd : D64 w B g s l rv) (hl : l.length ≤ 140737488355327) :
    Calls Try.prog 31 #[.pointer (some ⟨g, 0, none⟩)] w fun e w' => e = .returned (.int .u64 (X.sum64 s l)) ∧ ∃ m, w' = w.drewN m := by
  obtain ⟨hd1, ho⟩ := hd
  obtain ⟨A2, c2, rfl, hw2⟩ := own_waits (g := g) ho
  have HQ := Aside0.mk (esum_calls A2 c2 g l.length (X.rest 32 l) s (X.run64 (l.length / 32) (X.init64 s) l) w hd1 hw2.1 hw2.2 (bytes_rest hb 32) (egood_run _ _ _ (egood_init s hs)) hs (by omega) (Nat.le_trans (rest_le _ _) hl))
  rw [show X.tail64 ((X.head64 l.length s (X.run64 (l.length / 32) (X.init64 s) l) + (l.length : Int)) % 18446744073709551616) (X.rest 32 l) = X.sum64 s l from rfl] at HQ
  clear hd1 ho hw2 hb hs hl
  go_enter Try.func31, Try.ntmps31
  go_wp2_with fail
  refine HQ.out.mono ?_
  rintro e w1 ⟨rfl, m, rfl⟩
  go_wp2
  go_ret
  exact ⟨rfl, m, rfl⟩
theorem Len64_calls (l : List Int) (g B : Nat) (rv : Value) (s : Int) (w : World) (hd : D64 w B g s l rv) :
    Calls Try.prog 33 #[.pointer (some ⟨g, 0, none⟩)] w fun e w' => e = .returned (.int .u64 (l.length : Int)) ∧ w' = w := by
  have x1 := (IsE.at hd.d 1 (.int .u64 (l.length : Int)) rfl).1
  clear hd
  go_enter Try.func33, Try.ntmps33
  go_wp2
  go_ret
  exact ⟨rfl, rfl⟩
end Go.Proofs.Ytnkcbkfccbfjpaa.XxhW
