/- Contract of lives: true at every world. -/
import Derived.Test.YtnkcbkfccbfjpaaZb
import Derived.Lib.SlBytesConst
import Derived.Lib.SmallJoins
namespace Go.Proofs.Ytnkcbkfccbfjpaa.XxhP
open Go.RowKit Go.Proofs.YtnkcbkfccbfjpaaW.PrintWords Go.Proofs.YtnkcbkfccbfjpaaW.PrintLast Go.Proofs.YtnkcbkfccbfjpaaW.PrintMore Go.Proofs.Ytnkcbkfccbfjpaa.XxhW
set_option linter.unusedVariables false
set_option linter.unusedSimpArgs false
theorem v1 : X.sum32 0 [] = 46947589 := by decide +kernel
theorem v2 : X.sum32 0 [97, 98, 99] = 852579327 := by decide +kernel
theorem v3 : X.sum64 0 [] = 17241709254077376921 := by decide +kernel
theorem v4 : X.sum64 0 [97, 98, 99] = 4952883123889572249 := by decide +kernel
theorem reads_nil (w : World) : ReadsInt w .u8 none ([] : List Int).length [] := ⟨rfl, by simp, fun h => by simp at h⟩
theorem s1 (w : World) : Calls Try.prog 21 #[.int .u32 0, .slice none 0 0] w fun e w' => e = .returned (.int .u32 46947589) ∧ Below w.heap.size w w' := by
  have := Sum32_calls none 0 [] 0 w (reads_nil w) (bytes_of _ rfl) ⟨by decide, by decide⟩ (by simp)
  rwa [v1] at this
theorem s3 (w : World) : Calls Try.prog 22 #[.int .u64 0, .slice none 0 0] w fun e w' => e = .returned (.int .u64 17241709254077376921) ∧ Below w.heap.size w w' := by
  have := Sum64_calls none 0 [] 0 w (reads_nil w) (bytes_of _ rfl) ⟨by decide, by decide⟩ (by simp)
  rwa [v3] at this
theorem reads_abc (w : World) : ReadsInt (w.alloc (.cells #[.int .u8 97, .int .u8 98, .int .u8 99] 5 (3, 4))) .u8 (some ⟨w.heap.size, 0, none⟩) ([97, 98, 99] : List Int).length [97, 98, 99] :=
  ⟨rfl, by simp, fun _ => ⟨_, rfl, fun j hj => by
    rw [add_plain, World.cell?_alloc_mark]
    simp at hj
    rcases j with _ | _ | _ | j
    · rfl
    · rfl
    · rfl
    · omega⟩⟩
theorem s2 (w : World) : Calls Try.prog 21 #[.int .u32 0, .slice (some ⟨w.heap.size, 0, none⟩) 3 3] (w.alloc (.cells #[.int .u8 97, .int .u8 98, .int .u8 99] 5 (3, 4))) fun e w' => e = .returned (.int .u32 852579327) ∧ Below w.heap.size w w' := by
  have := Sum32_calls _ 3 [97, 98, 99] 0 _ (reads_abc w) (bytes_of _ rfl) ⟨by decide, by decide⟩ (by simp)
  rw [v2] at this
  exact this.mono fun e w' ⟨h1, h2⟩ => ⟨h1, below_step (below_alloc (Below.refl _ _) _) h2⟩
theorem s4 (w : World) : Calls Try.prog 22 #[.int .u64 0, .slice (some ⟨w.heap.size, 0, none⟩) 3 3] (w.alloc (.cells #[.int .u8 97, .int .u8 98, .int .u8 99] 5 (3, 4))) fun e w' => e = .returned (.int .u64 4952883123889572249) ∧ Below w.heap.size w w' := by
  have := Sum64_calls _ 3 [97, 98, 99] 0 _ (reads_abc w) (bytes_of _ rfl) ⟨by decide, by decide⟩ (by simp)
  rw [v4] at this
  exact this.mono fun e w' ⟨h1, h2⟩ => ⟨h1, below_step (below_alloc (Below.refl _ _) _) h2⟩
set_option maxHeartbeats 2000000 in
set_option maxRecDepth 100000 in
theorem lives_calls (w : World) : Calls Try.prog 25 #[] w fun e w' => e = .returned (.bool true) ∧ Below w.heap.size w w' := by
  have kc := fun (w : World) (C : Array Value) (n c : Nat) => Lib.run_convert_bytes_const (P := Try.prog) w 22 5 C n c Try.underlying22 Try.underlying5
  have HB := Aside0.mk (Below.refl w.heap.size w)
  go_enter Try.func25, Try.ntmps25
  go_wp2_with (first | (go_at_call 21; first | ((with_reducible refine (s1 _).mono ?_); rintro e w1 ⟨rfl, hb⟩; have HB1 := Aside0.mk hb; clear hb) | ((with_reducible refine (s2 _).mono ?_); rintro e w2 ⟨rfl, hb⟩; have HB2 := Aside0.mk hb; clear hb)) | (go_at_call 22; first | ((with_reducible refine (s3 _).mono ?_); rintro e w3 ⟨rfl, hb⟩; have HB3 := Aside0.mk hb; clear hb) | ((with_reducible refine (s4 _).mono ?_); rintro e w4 ⟨rfl, hb⟩; have HB4 := Aside0.mk hb; clear hb)))
  go_ret
  exact ⟨rfl, below_step (below_step (below_step HB1.out HB2.out) HB3.out) HB4.out⟩
end Go.Proofs.Ytnkcbkfccbfjpaa.XxhP
