/- lz.Decode's contract in the print's form; what comes out is bounded: plain facts. -/
import Derived.Test.YtnomebkdhjigjaaLe
namespace Go.Proofs.Ytnomebkdhjigjaa.W
open Go.RowKit Go.Proofs.YtnomebkdhjigjaaW.PrintWords Go.Proofs.YtnomebkdhjigjaaW.PrintLast Go.Proofs.YtnomebkdhjigjaaW.PrintMore
set_option linter.unusedVariables false
set_option linter.unusedSimpArgs false
def decodeF (l0 l1 : List Int) (a2 : Int) : Option (List Int × Int × Int) := if l0.length ≤ 140737488355327 ∧ l1.length ≤ 140737488355327 ∧ bytesB l0 = true then some (decode l0 l1 a2) else none
theorem Decode_p (A0 : Option Addr) (c0 : Nat) (l0 : List Int) (A1 : Option Addr) (c1 : Nat) (l1 : List Int) (a2 : Int) (r1 : List Int) (r2 : Int) (r3 : Int) (w : World) (hr0 : Kd.C (Kd.int .u8) w A0 l0.length l0) (hc0 : l0.length ≤ c0) (hr1 : Kd.C (Kd.int .u8) w A1 l1.length l1) (hc1 : l1.length ≤ c1) (h : decodeF l0 l1 a2 = some (r1, r2, r3)) :
    Calls Try.prog 38 #[.slice A0 l0.length c0, .slice A1 l1.length c1, .int .i64 a2] w fun e w' => ∃ v0_ : Value, e = .returned (.tuple #[v0_, .int .i64 r2, .int .i64 r3]) ∧ Kd.R (Kd.int .u8) 5 w' w.heap.size (fun _ => True) v0_ r1 ∧ Below w.heap.size w w' := by
  unfold decodeF at h
  by_cases c : l0.length ≤ 140737488355327 ∧ l1.length ≤ 140737488355327 ∧ bytesB l0 = true
  · rw [if_pos c] at h
    have e := Option.some.inj h
    refine (Decode_calls A0 A1 c0 c1 l0 l1 a2 w (reads_of_C hr0) hc0 (byt_of _ c.2.2) c.1 (reads_of_C hr1) hc1 c.2.1).mono ?_
    rintro e' w' ⟨A', c', he, ho, hb⟩
    rw [e] at he ho
    exact ⟨_, he, Kd.R_of_own ho (fun _ _ => trivial), hb⟩
  · rw [if_neg c] at h
    cases h
theorem num_grow {b : List Int} {n : Int} {k : Nat} (hb : Byt b) (h0 : 0 ≤ n) (h1 : n ≤ 15) (hk : k ≤ b.length) (he : numE b n k = 0) : 0 ≤ numS b n k ∧ numS b n k ≤ 15 + 255 * ((moreK b n k : Int) - (k : Int)) ∧ k ≤ moreK b n k ∧ moreK b n k ≤ b.length := by
  unfold numS numE moreK at *
  cases e : num b n k with
  | none => rw [e] at he; cases he
  | some p =>
    obtain ⟨s, j⟩ := p
    simp only
    unfold num at e
    by_cases c : n < 15
    · rw [if_pos c] at e
      cases e
      omega
    · rw [if_neg c] at e
      cases e2 : ext (b.drop k) with
      | none => rw [e2] at e; cases e
      | some q =>
        obtain ⟨s', k'⟩ := q
        rw [e2] at e
        cases e
        have a := ext_len _ _ _ e2
        have d := ext_bound _ _ _ (hb.drop k) e2
        rw [List.length_drop] at a
        omega
theorem roomE_zero {all : List Int} {bg most n : Int} (h : ¬ roomE all bg most n ≠ 0) : n ≤ most - ((all.length : Int) - bg) := by
  unfold roomE at h
  by_cases c : n > most - ((all.length : Int) - bg)
  · rw [if_pos c] at h
    exact absurd (by decide) h
  · omega
/-- What decoding answers lies within bounds. -/
theorem dec_bound (b : List Int) (bg most : Int) (hb : Byt b) : ∀ (f k : Nat) (all : List Int), k ≤ b.length → b.length < f + k → (all.length : Int) - bg ≤ most →
    (0 ≤ (dec b bg most f k all).1 ∧ (dec b bg most f k all).1 ≤ (b.length : Int)) ∧
    ((dec b bg most f k all).2.1 = 0 → (dec b bg most f k all).1 = 0 ∧ ((dec b bg most f k all).2.2.length : Int) - bg ≤ most ∧ ((dec b bg most f k all).2.2.length : Int) ≤ (all.length : Int) + 255 * ((b.length : Int) - (k : Int))) := by
  intro f
  induction f with
  | zero => intro k all hk hf; omega
  | succ f ih =>
    intro k all hk hf hs
    have ht := hb k
    have hq0 : 0 ≤ b.getD k 0 / 16 ∧ b.getD k 0 / 16 ≤ 15 := by omega
    have hq1 : 0 ≤ b.getD k 0 % 16 ∧ b.getD k 0 % 16 ≤ 15 := by omega
    rw [dec]
    by_cases c1 : k = b.length
    · rw [if_pos c1]; exact ⟨⟨by omega, Int.le_refl _⟩, fun h => by cases h⟩
    rw [if_neg c1]
    by_cases c2 : numE b (b.getD k 0 / 16) (k + 1) ≠ 0
    · rw [if_pos c2]; exact ⟨⟨by omega, Int.le_refl _⟩, fun h => by cases h⟩
    rw [if_neg c2]
    have g1 := num_grow hb hq0.1 hq0.2 (show k + 1 ≤ b.length by omega) (by omega)
    generalize numS b (b.getD k 0 / 16) (k + 1) = n at g1 ⊢
    generalize moreK b (b.getD k 0 / 16) (k + 1) = k1 at g1 ⊢
    by_cases c3 : roomE all bg most n ≠ 0
    · rw [if_pos c3]; exact ⟨⟨by show (0 : Int) ≤ (k1 : Int); omega, by show (k1 : Int) ≤ _; omega⟩, fun h => by cases h⟩
    rw [if_neg c3]
    have r1 := roomE_zero c3
    by_cases c4 : n > (b.length : Int) - (k1 : Int)
    · rw [if_pos c4]; exact ⟨⟨by omega, Int.le_refl _⟩, fun h => by cases h⟩
    rw [if_neg c4]
    obtain ⟨m, rfl⟩ := Int.eq_ofNat_of_zero_le g1.1
    rw [Int.toNat_natCast]
    obtain ⟨al, hal⟩ : ∃ al, al = all ++ (b.take (k1 + m)).drop k1 := ⟨_, rfl⟩
    have hl : (al.length : Int) = (all.length : Int) + (m : Int) := by
      rw [hal, List.length_append, List.length_drop, List.length_take]; omega
    rw [← hal]
    obtain ⟨k2, hk2⟩ : ∃ k2, k2 = k1 + m := ⟨_, rfl⟩
    rw [← hk2]
    clear hal
    unfold dec.dec2
    by_cases c5 : k2 = b.length
    · rw [if_pos c5]
      by_cases c6 : b.getD k 0 % 16 ≠ 0
      · rw [if_pos c6]; exact ⟨⟨by show (0 : Int) ≤ (k : Int); omega, by show (k : Int) ≤ _; omega⟩, fun h => by cases h⟩
      · rw [if_neg c6]; exact ⟨⟨Int.le_refl _, by show (0 : Int) ≤ _; omega⟩, fun _ => ⟨rfl, by show (al.length : Int) - bg ≤ most; omega, by show (al.length : Int) ≤ _; omega⟩⟩
    rw [if_neg c5]
    by_cases c7 : (b.length : Int) - (k2 : Int) < 2
    · rw [if_pos c7]; exact ⟨⟨by omega, Int.le_refl _⟩, fun h => by cases h⟩
    rw [if_neg c7]
    by_cases c8 : b.getD k2 0 + b.getD (k2 + 1) 0 * 256 = 0
    · rw [if_pos c8]; exact ⟨⟨by show (0 : Int) ≤ (k2 : Int); omega, by show (k2 : Int) ≤ _; omega⟩, fun h => by cases h⟩
    rw [if_neg c8]
    by_cases c9 : b.getD k2 0 + b.getD (k2 + 1) 0 * 256 > (al.length : Int)
    · rw [if_pos c9]; exact ⟨⟨by show (0 : Int) ≤ (k2 : Int); omega, by show (k2 : Int) ≤ _; omega⟩, fun h => by cases h⟩
    rw [if_neg c9]
    by_cases c10 : numE b (b.getD k 0 % 16) (k2 + 2) ≠ 0
    · rw [if_pos c10]; exact ⟨⟨by omega, Int.le_refl _⟩, fun h => by cases h⟩
    rw [if_neg c10]
    have g2 := num_grow hb hq1.1 hq1.2 (show k2 + 2 ≤ b.length by omega) (by omega)
    generalize numS b (b.getD k 0 % 16) (k2 + 2) = n2 at g2 ⊢
    generalize moreK b (b.getD k 0 % 16) (k2 + 2) = k3 at g2 ⊢
    by_cases c11 : roomE al bg most (n2 + 4) ≠ 0
    · rw [if_pos c11]; exact ⟨⟨by show (0 : Int) ≤ (k2 : Int); omega, by show (k2 : Int) ≤ _; omega⟩, fun h => by cases h⟩
    rw [if_neg c11]
    have r2 := roomE_zero c11
    have hcl := copied_len (b.getD k2 0 + b.getD (k2 + 1) 0 * 256).toNat (n2 + 4).toNat al
    generalize copied (b.getD k2 0 + b.getD (k2 + 1) 0 * 256).toNat (n2 + 4).toNat al = al2 at hcl ⊢
    have hr := ih k3 al2 g2.2.2.2 (by omega) (by omega)
    refine ⟨hr.1, fun h => ?_⟩
    have h3 := hr.2 h
    exact ⟨h3.1, h3.2.1, by omega⟩
theorem decode_bound (b ahead : List Int) (most : Int) (hb : Byt b) : (0 ≤ (decode b ahead most).2.1 ∧ (decode b ahead most).2.1 ≤ (b.length : Int)) ∧ ((decode b ahead most).2.2 ≠ 0 → (decode b ahead most).1.length = 0) ∧
    ((decode b ahead most).2.2 = 0 → (decode b ahead most).2.1 = 0 ∧ ((decode b ahead most).1.length : Int) ≤ most ∧ ((decode b ahead most).1.length : Int) ≤ 255 * (b.length : Int)) := by
  unfold decode
  by_cases c : most < 0 ∨ most > 4194304
  · rw [if_pos c]
    exact ⟨⟨Int.le_refl _, by show (0 : Int) ≤ _; omega⟩, fun _ => rfl, fun h => by cases h⟩
  rw [if_neg c]
  have hd := dec_bound b ((window ahead).length : Int) most hb (b.length + 1) 0 (window ahead) (Nat.zero_le _) (by omega) (by omega)
  generalize dec b ((window ahead).length : Int) most (b.length + 1) 0 (window ahead) = R at hd ⊢
  by_cases e : R.2.1 ≠ 0
  · rw [if_pos e]
    exact ⟨hd.1, fun _ => rfl, fun h => absurd h e⟩
  · rw [if_neg e]
    have h := hd.2 (by omega)
    refine ⟨⟨Int.le_refl _, by show (0 : Int) ≤ _; omega⟩, fun h => absurd rfl h, fun _ => ⟨rfl, ?_, ?_⟩⟩
    · show ((R.2.2.drop (window ahead).length).length : Int) ≤ most
      rw [List.length_drop]
      omega
    · show ((R.2.2.drop (window ahead).length).length : Int) ≤ _
      rw [List.length_drop]
      omega
theorem decode_nil : (decode [] [] 0).2.2 = 4 := by decide
end Go.Proofs.Ytnomebkdhjigjaa.W
