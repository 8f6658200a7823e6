/- The statement HeaderWhole, about numbers and bytes alone: a name that was cut is whole again, both parts fit, and no name that could be cut is refused; at every name of at most 140737488351232 bytes (the form's own reach). -/
import Derived.Test.YtanbicpkdkcpbaaDoorHa
import Derived.Lib.Strings
namespace Go.Proofs.YtanbicpkdkcpbaaDoor.Whole
open Go.RowKit Go.Proofs.YtanbicpkdkcpbaaDoor.MHeaderWhole Go.Proofs.YtanbicpkdkcpbaaDoorW.PrintWords Go.Proofs.YtanbicpkdkcpbaaDoorW.PrintLast Go.Proofs.YtanbicpkdkcpbaaDoorW.PrintMore
set_option linter.unusedVariables false

theorem wrap_id {x : Int} (h0 : -9223372036854775808 ≤ x) (h1 : x ≤ 9223372036854775807) : wrap64 x = x := by unfold wrap64; omega

/-- May the name be cut at p? -/
def Cuts (s : ByteArray) (p : Int) : Prop := bt s p = 47 ∧ 1 ≤ (s.size : Int) - p - 1 ∧ (s.size : Int) - p - 1 ≤ 100

theorem cut_loop (s : ByteArray) (hs : s.size ≤ 140737488351232) (d : Nat) : ∀ (k : Nat) (i : Int), i = d → i < s.size → d < k →
    (∃ p : Nat, 1 ≤ p ∧ (p : Int) ≤ i ∧ Cuts s p ∧ header_Cut.l0 k s i = some (s.extract 0 p, s.extract (p + 1) s.size, 0)) ∨
    ((∀ q : Int, 1 ≤ q → q ≤ i → ¬ Cuts s q) ∧ header_Cut.l0 k s i = some ((⟨#[]⟩ : ByteArray), (⟨#[]⟩ : ByteArray), 133)) := by
  induction d with
  | zero =>
    intro k i hi hlt hk
    obtain ⟨k, rfl⟩ : ∃ m, k = m + 1 := ⟨k - 1, by omega⟩
    refine .inr ⟨fun q h1 h2 => by omega, ?_⟩
    rw [header_Cut.l0, if_neg (by omega)]
  | succ d ih =>
    intro k i hi hlt hk
    obtain ⟨k, rfl⟩ : ∃ m, k = m + 1 := ⟨k - 1, by omega⟩
    have e1 : wrap64 ((s.size : Int) - i) = (s.size : Int) - i := wrap_id (by omega) (by omega)
    have e2 : wrap64 ((s.size : Int) - i - 1) = (s.size : Int) - i - 1 := wrap_id (by omega) (by omega)
    have e3 : wrap64 (i - 1) = i - 1 := wrap_id (by omega) (by omega)
    have e4 : wrap64 (i + 1) = i + 1 := wrap_id (by omega) (by omega)
    by_cases hc : Cuts s i
    · refine .inl ⟨d + 1, by omega, by omega, by rw [← hi]; exact hc, ?_⟩
      rw [header_Cut.l0, if_pos (by omega), if_pos (by omega), if_pos hlt, if_pos hc.1, e1, e2, e4, if_pos (by have := hc.2.1; omega), if_pos hc.2.2, if_pos (by omega), if_pos (by omega), if_pos (by omega)]
      have a1 : i.toNat = d + 1 := by omega
      have a2 : (i + 1).toNat = d + 1 + 1 := by omega
      rw [a1, a2]
    · have hstep : header_Cut.l0 (k + 1) s i = header_Cut.l0 k s (i - 1) := by
        rw [header_Cut.l0, if_pos (by omega), if_pos (by omega), if_pos hlt, e1, e2, e3]
        by_cases h1 : bt s i = 47
        · rw [if_pos h1]
          by_cases h2 : (s.size : Int) - i - 1 ≥ 1
          · rw [if_pos h2]
            by_cases h3 : (s.size : Int) - i - 1 ≤ 100
            · exact absurd ⟨h1, h2, h3⟩ hc
            · rw [if_neg h3]
          · rw [if_neg h2]
        · rw [if_neg h1]
      rw [hstep]
      rcases ih k (i - 1) (by omega) (by omega) (by omega) with ⟨p, h1, h2, h3, h4⟩ | ⟨h1, h2⟩
      · exact .inl ⟨p, h1, by omega, h3, h4⟩
      · refine .inr ⟨fun q a b => ?_, h2⟩
        by_cases e : q = i
        · rw [e]; exact hc
        · exact h1 q a (by omega)

theorem law_loop (s : ByteArray) (hs : s.size ≤ 140737488351232) (hbig : 100 < s.size) (hno : ∀ q : Int, 1 ≤ q → q ≤ 155 → q ≤ (s.size : Int) - 1 → ¬ Cuts s q) (d : Nat) :
    ∀ (k : Nat) (i : Int), 1 ≤ i → i ≤ 156 → 156 - i = d → 2 * d + 2 < k → satchellaw13_HeaderWhole.l0 k s 133 i = some true := by
  have hend : ∀ k i, satchellaw13_HeaderWhole.j1 (k + 1) s 133 i false = some true := by
    intro k i
    rw [satchellaw13_HeaderWhole.j1, if_neg (by simp), if_pos rfl, decide_eq_true (by omega)]
  induction d with
  | zero =>
    intro k i h1 h2 hd hk
    obtain ⟨k, rfl⟩ : ∃ m, k = m + 2 := ⟨k - 2, by omega⟩
    rw [satchellaw13_HeaderWhole.l0, decide_eq_false (by omega), hend, ite_self]
  | succ d ih =>
    intro k i h1 h2 hd hk
    obtain ⟨k, rfl⟩ : ∃ m, k = m + 2 := ⟨k - 2, by omega⟩
    rw [satchellaw13_HeaderWhole.l0]
    by_cases hlt : i < (s.size : Int)
    · have e1 : wrap64 ((s.size : Int) - i) = (s.size : Int) - i := wrap_id (by omega) (by omega)
      have e2 : wrap64 ((s.size : Int) - i - 1) = (s.size : Int) - i - 1 := wrap_id (by omega) (by omega)
      have e4 : wrap64 (i + 1) = i + 1 := wrap_id (by omega) (by omega)
      rw [if_pos hlt, decide_eq_true (by omega), satchellaw13_HeaderWhole.j1, if_pos rfl, if_pos (by omega), if_pos hlt, e1, e2, e4]
      have go := ih k (i + 1) (by omega) (by omega) (by omega) (by omega)
      rw [go]
      by_cases c1 : bt s i = 47
      · rw [if_pos c1]
        by_cases c2 : (s.size : Int) - i - 1 ≥ 1
        · rw [if_pos c2]
          by_cases c3 : (s.size : Int) - i - 1 ≤ 100
          · exact absurd ⟨c1, c2, c3⟩ (hno i h1 (by omega) (by omega))
          · rw [if_neg c3]
        · rw [if_neg c2]
      · rw [if_neg c1]
    · rw [if_neg hlt, hend]

theorem whole_again (s : ByteArray) (p : Nat) (hp : p < s.size) (hc : bt s p = 47) : (s.extract 0 p ++ (⟨#[47]⟩ : ByteArray)) ++ s.extract (p + 1) s.size = s := by
  apply WideShapes.bytes_inj
  have hl : s.data.toList.length = s.size := (Lib.size_eq s).symm
  have hb : s.data.toList[p]? = some 47 := by
    have := bt_at s p (by simpa using hp)
    rw [hc] at this
    have h2 : p < s.data.toList.length := by omega
    rw [List.getElem?_eq_getElem h2]
    have h3 : s.data.toList[p] = s[(p : Int).toNat]'(by simpa using hp) := rfl
    rw [h3]
    have : (s[(p : Int).toNat]'(by simpa using hp)).toNat = 47 := by omega
    exact congrArg some (UInt8.toNat_inj.1 (by simpa using this))
  rw [ByteArray.data_append, ByteArray.data_append, Array.toList_append, Array.toList_append, Lib.extract_data, Lib.extract_data]
  have e1 : ((s.data.toList.drop (p + 1)).take (s.size - (p + 1))) = s.data.toList.drop (p + 1) := List.take_of_length_le (by simp)
  rw [e1]
  have h2 : p < s.data.toList.length := by omega
  have e2 : s.data.toList.drop p = s.data.toList[p] :: s.data.toList.drop (p + 1) := List.drop_eq_getElem_cons h2
  have e3 : s.data.toList[p] = 47 := by rw [List.getElem?_eq_getElem h2] at hb; exact Option.some.inj hb
  have e4 := List.take_append_drop p s.data.toList
  rw [e2, e3] at e4
  simp only [List.drop_zero, Nat.sub_zero]
  rw [List.append_assoc]
  exact e4

theorem HeaderWhole : satchellaw13_HeaderWhole.Pure := by
  intro s hs
  refine ⟨400, ?_⟩
  unfold satchellaw13_HeaderWhole.f header_Cut.f
  by_cases h100 : (s.size : Int) ≤ 100
  · rw [if_pos h100]
    simp only [Option.bind_some]
    have e0 : (⟨#[]⟩ : ByteArray).toList = ([] : List UInt8) := by rw [Lib.toList_data]
    rw [if_pos trivial, header_Name.f, if_pos e0]
    simp only [Option.bind_some]
    rw [if_pos trivial, if_pos h100]
    rfl
  · rw [if_neg h100, wrap_id (x := (s.size : Int) - 1) (by omega) (by omega)]
    obtain ⟨i, hi, hi0, hi1, hi2, hi3⟩ : ∃ i : Int, mn 155 ((s.size : Int) - 1) = i ∧ 0 ≤ i ∧ i < s.size ∧ i ≤ 155 ∧ (∀ q : Int, q ≤ 155 → q ≤ (s.size : Int) - 1 → q ≤ i) := by
      refine ⟨_, rfl, ?_, ?_, ?_, ?_⟩ <;> unfold mn <;> (try intro q a b) <;> split <;> omega
    rw [hi]
    rcases cut_loop s hs i.toNat 400 i (by omega) hi1 (by omega) with ⟨p, h1, h2, hc, he⟩ | ⟨hno, he⟩
    · rw [he]
      simp only [Option.bind_some]
      have hp : p < s.size := by omega
      have hne : ¬ (s.extract 0 p).toList = ([] : List UInt8) := by
        rw [Lib.toList_data, Lib.extract_data]
        intro h
        have := congrArg List.length h
        have hl := Lib.size_eq s
        simp only [List.drop_zero, Nat.sub_zero, List.length_take, List.length_nil] at this
        omega
      have s1 : (s.extract 0 p).size = p := by rw [ByteArray.size_extract]; omega
      have s2 : (s.extract (p + 1) s.size).size = s.size - (p + 1) := by rw [ByteArray.size_extract]; omega
      have s3 : (s.extract 0 p ++ (⟨#[47]⟩ : ByteArray)).size = p + 1 := by rw [ByteArray.size_append, s1]; rfl
      rw [if_pos trivial, header_Name.f, if_neg hne, if_pos (by rw [s1]; omega), if_pos (by rw [s3, s2]; omega)]
      simp only [Option.bind_some]
      rw [whole_again s p hp hc.1, if_pos rfl, s1, s2, if_pos (by have := hc.2.2; omega), decide_eq_true (by omega)]
    · rw [he]
      simp only [Option.bind_some]
      rw [if_neg (by decide)]
      exact law_loop s hs (by omega) (fun q a b c => hno q a (hi3 q b c)) 155 400 1 (by omega) (by omega) (by omega) (by omega)

end Go.Proofs.YtanbicpkdkcpbaaDoor.Whole
