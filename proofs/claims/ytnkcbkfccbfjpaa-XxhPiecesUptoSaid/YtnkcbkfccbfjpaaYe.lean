/- Contract of xxh.Sum64: the sum of 64 bits as a plain function of the seed and the bytes. Conditions: the seed is a word of 64 bits, bytes are bytes, fewer than 2^47 of them. -/
import Derived.Test.YtnkcbkfccbfjpaaYd
namespace Go.Proofs.Ytnkcbkfccbfjpaa.XxhW
open Go.RowKit Go.Proofs.YtnkcbkfccbfjpaaW.PrintWords Go.Proofs.YtnkcbkfccbfjpaaW.PrintLast Go.Proofs.YtnkcbkfccbfjpaaW.PrintMore
set_option linter.unusedVariables false
set_option linter.unusedSimpArgs false
/-- The first bytes of a new digest. -/
theorem etakes_first (A : Option Addr) (c : Nat) (l : List Int) (g : Nat) (s : Int) (w1 : World) (hr : ReadsInt w1 .u8 A l.length l) (hb : Bytes l) (hl : l.length ≤ 140737488355327) (hd : IsE w1 g (.slice none 0 0) 0 s (X.init64 s)) :
    Calls Try.prog 56 #[.pointer (some ⟨g, 0, none⟩), .slice A l.length c] w1 fun e w' => e = .returned (.tuple #[]) ∧ ∃ A' c', IsE w' g (.slice A' (X.rest 32 l).length c') (l.length : Int) s (X.run64 (l.length / 32) (X.init64 s) l) ∧
      Waits w' g A' (X.rest 32 l).length c' (X.rest 32 l) ∧ Fr w1 w' (fun i => i ≠ g) := by
  have h := etakes_calls A c l [] g w1.heap.size 0 (.slice none 0 0) s (X.init64 s) w1 hr hb hd (own_nil _ _ _ _) (Nat.le_refl _) (by rw [List.length_nil, Nat.zero_add]; exact hl) (Nat.zero_le _)
  rw [List.nil_append, Nat.zero_add] at h
  refine h.mono fun e w' ⟨he, rv, hd2, ho2, hf2⟩ => ⟨he, ?_⟩
  obtain ⟨A2, c2, rfl, hw2⟩ := own_waits (g := g) ho2
  exact ⟨A2, c2, hd2, hw2, hf2.mono (fun i _ hi => ⟨hi, by simp [Value.ownBlock]⟩)⟩

set_option maxHeartbeats 1000000 in
set_option maxRecDepth 100000 in
theorem Sum64_calls (A : Option Addr) (c : Nat) (l : List Int) (s : Int) (w : World) (hr : ReadsInt w .u8 A l.length l) (hb : Bytes l) (hs : W64 s) (hl : l.length ≤ 140737488355327) :
    Calls Try.prog 22 #[.int .u64 s, .slice A l.length c] w fun e w' => e = .returned (.int .u64 (X.sum64 s l)) ∧ Below w.heap.size w w' := by
  have H1 := Aside0.mk (ebegun_calls s w hs.1 hs.2)
  have HR := Aside0.mk hr
  have HL := Aside0.mk hl
  have HS := Aside0.mk hs
  have HB0 := Aside0.mk hb
  clear hr hs hl hb
  go_enter Try.func22, Try.ntmps22
  go_wp2_with fail
  refine H1.out.mono ?_
  rintro e w1 ⟨rfl, hd1, hb1⟩
  have HB1 := Aside0.mk hb1
  have HT := Aside0.mk (etakes_first A c l w.heap.size s w1 (HR.out.below hb1) HB0.out HL.out hd1)
  clear hd1 hb1
  go_wp2_with fail
  refine HT.out.mono ?_
  rintro e w2 ⟨rfl, A2, c2, hd2, hw2, hf2⟩
  have HF2 := Aside0.mk hf2
  have HQ := Aside0.mk (esum_calls A2 c2 w.heap.size l.length (X.rest 32 l) s (X.run64 (l.length / 32) (X.init64 s) l) w2 hd2 hw2.1 hw2.2 (bytes_rest HB0.out 32) (egood_run _ _ _ (egood_init s HS.out)) HS.out (Nat.le_trans HL.out (by decide)) (Nat.le_trans (rest_le _ _) HL.out))
  rw [show X.tail64 ((X.head64 l.length s (X.run64 (l.length / 32) (X.init64 s) l) + (l.length : Int)) % 18446744073709551616) (X.rest 32 l) = X.sum64 s l from rfl] at HQ
  clear hd2 hf2 hw2
  go_wp2_with fail
  refine HQ.out.mono ?_
  rintro e w3 ⟨rfl, m, rfl⟩
  go_wp2
  go_ret
  exact ⟨rfl, pw_below_drewN (HB1.out.trans (HF2.out.below (B := w.heap.size) (fun i hi => ⟨Nat.lt_of_lt_of_le hi HB1.out.size, Nat.ne_of_lt hi⟩))) m⟩
end Go.Proofs.Ytnkcbkfccbfjpaa.XxhW
