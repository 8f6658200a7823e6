/- lz.Encode's map of four bytes: its keys, what it holds behind each place learned. -/
import Derived.Test.YtnomebkdhjigjaaEa
import Derived.Maps.OwnSet
import Derived.Maps.Views
import Derived.WideKeyPair
namespace Go.Proofs.Ytnomebkdhjigjaa.W
open Go.RowKit Go.Proofs.Ytnomebkdhjigjaa.Z Go.Maps Go.WideMaps
set_option linter.unusedVariables false
set_option linter.unusedSimpArgs false
theorem arr91 : ArrKey Try.prog 91 5 4 := ⟨Try.underlying91, by kernel_rfl, by kernel_rfl, by kernel_rfl⟩
theorem keyed91 : Keyed Try.prog 91 := Keyed.of_law arr91.law
theorem types_pos : ∃ m, Try.prog.types.size = m + 1 := ⟨Try.prog.types.size - 1, by
  have : 0 < Try.prog.types.size := of_decide_eq_true (by kernel_rfl)
  omega⟩
/-- Four bytes as a key. -/
def lit4 (q : List Int) : Lit := .string (keyBytes (q.map (Lit.int .u8)))
theorem keyOf4 {a b c d : Int} (wa : (Lit.int .u8 a).wf = true) (wb : (Lit.int .u8 b).wf = true) (wc : (Lit.int .u8 c).wf = true) (wd : (Lit.int .u8 d).wf = true) :
    keyOf Try.prog 91 (.agg #[.int .u8 a, .int .u8 b, .int .u8 c, .int .u8 d]) = some (lit4 [a, b, c, d]) := by
  have hkt := arr91.keyType types_pos
  obtain ⟨m, hm⟩ := types_pos
  unfold keyOf lit4
  simp only [arr91.hu]
  rw [if_pos (by simp [hkt, Value.formed, arr91.hu, arr91.size]), hm]
  unfold Program.keyLits
  simp only [arr91.hu, Value.cells]
  rw [if_pos (by rw [arr91.size]; rfl), show List.range 4 = [0, 1, 2, 3] from rfl, List.mapM_cons, List.mapM_cons, List.mapM_cons, List.mapM_cons, List.mapM_nil]
  simp [arr91.one, Program.keyLits, Try.underlying5, wa, wb, wc, wd]
def WfB (q : List Int) : Prop := ∀ x ∈ q, (Lit.int .u8 x).wf = true
theorem lit4_ne {q q' : List Int} (hl : q.length = q'.length) (h : WfB q) (h' : WfB q') (hne : q ≠ q') : lit4 q ≠ lit4 q' := by
  intro e
  apply hne
  unfold lit4 at e
  injection e with e
  have al : ∀ (l l' : List Int), l.length = l'.length → Alike (l.map (Lit.int .u8)) (l'.map (Lit.int .u8)) := by
    intro l
    induction l with
    | nil => intro l' hl; cases l' with
      | nil => trivial
      | cons x r => cases hl
    | cons x r ih => intro l' hl; cases l' with
      | nil => cases hl
      | cons y s => exact ⟨rfl, ih s (by simpa using hl)⟩
  have := keyBytes_inj (al q q' hl) (fun a ha => by obtain ⟨x, hx, rfl⟩ := List.mem_map.1 ha; exact h x hx) (fun a ha => by obtain ⟨x, hx, rfl⟩ := List.mem_map.1 ha; exact h' x hx) e
  have inj : ∀ (l l' : List Int), l.map (Lit.int .u8) = l'.map (Lit.int .u8) → l = l' := by
    intro l
    induction l with
    | nil => intro l' h; cases l' with
      | nil => rfl
      | cons x r => cases h
    | cons x r ih => intro l' h; cases l' with
      | nil => cases h
      | cons y s =>
        injection h with h1 h2
        injection h1 with _ h1
        rw [h1, ih s h2]
  exact inj _ _ this
theorem key4_len {all : List Int} {n : Nat} (h : n + 4 ≤ all.length) : (key4 all n).length = 4 := by
  unfold key4
  rw [List.length_take, List.length_drop]
  omega
theorem key4_wf {all : List Int} (h : WfB all) (n : Nat) : WfB (key4 all n) := fun x hx => h x (List.mem_of_mem_drop (List.mem_of_mem_take hx))
/-- What the map holds when the places ahead of n are learned. -/
structure Learned (D : DataW Unit) (all : List Int) (n : Nat) : Prop where
  m : IsMap D
  has : ∀ q, q.length = 4 → WfB q → Maps.has D (lit4 q) = (find4 all n q).isSome
  at' : ∀ q, q.length = 4 → WfB q → ∀ k, find4 all n q = some k → D.atKey (lit4 q) (.lit (.int .i64 0)) = .lit (.int .i64 (k : Int))
theorem Learned.zero (all : List Int) : Learned (.map []) all 0 := ⟨isMap_empty, fun q _ _ => rfl, fun q _ _ k h => by cases h⟩
theorem Learned.skip {D : DataW Unit} {all : List Int} {n : Nat} (h : Learned D all n) (hn : ¬ n + 4 ≤ all.length) : Learned D all (n + 1) := by
  have e : ∀ q, find4 all (n + 1) q = find4 all n q := fun q => by rw [find4, if_neg (fun hc => hn hc.1)]
  exact ⟨h.m, fun q h1 h2 => by rw [e]; exact h.has q h1 h2, fun q h1 h2 k hk => h.at' q h1 h2 k (by rw [← e]; exact hk)⟩
theorem isMap_put {D : DataW Unit} (h : IsMap D) (k : Lit) (d : DataW Unit) : IsMap (D.put k d) := by
  obtain ⟨es, rfl⟩ := h
  exact ⟨_, rfl⟩
theorem Learned.put {D : DataW Unit} {all : List Int} {n : Nat} (h : Learned D all n) (hb : WfB all) (hn : n + 4 ≤ all.length) : Learned (D.put (lit4 (key4 all n)) (.lit (.int .i64 (n : Int)))) all (n + 1) := by
  refine ⟨isMap_put h.m _ _, fun q h1 h2 => ?_, fun q h1 h2 k hk => ?_⟩
  · by_cases c : key4 all n = q
    · subst c
      rw [has_put_same h.m (show WideAt.IsKeyLit (lit4 _) from trivial), find4, if_pos ⟨hn, rfl⟩]
      rfl
    · rw [has_put_other (lit4_ne (by rw [h1, key4_len hn]) h2 (key4_wf hb n) (fun e => c e.symm)), find4, if_neg (fun hc => c hc.2)]
      exact h.has q h1 h2
  · rw [find4] at hk
    by_cases c : key4 all n = q
    · subst c
      rw [if_pos ⟨hn, rfl⟩] at hk
      cases hk
      exact atKey_put_same h.m (show WideAt.IsKeyLit (lit4 _) from trivial) _ _
    · rw [if_neg (fun hc => c hc.2)] at hk
      rw [atKey_put_other (lit4_ne (by rw [h1, key4_len hn]) h2 (key4_wf hb n) (fun e => c e.symm))]
      exact h.at' q h1 h2 k hk
theorem zero3 (w : World) : (zeroValue 3).run Try.prog w = .ok (.int .i64 0) w := by kernel_rfl
end Go.Proofs.Ytnomebkdhjigjaa.W
