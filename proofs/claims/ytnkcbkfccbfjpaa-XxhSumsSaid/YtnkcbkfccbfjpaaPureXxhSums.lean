/- The plain law of XxhSums: both digests and the reference come to the same plain sum. -/
import Derived.Test.YtnkcbkfccbfjpaaMXxhSumsx2
import Derived.Test.YtnkcbkfccbfjpaaZb
namespace Go.Proofs.Ytnkcbkfccbfjpaa.Pure
open Go.RowKit Go.Proofs.Ytnkcbkfccbfjpaa.MXxhSums Go.Proofs.YtnkcbkfccbfjpaaW.PrintWords Go.Proofs.YtnkcbkfccbfjpaaW.PrintLast

theorem XxhSums : satchellaw02_XxhSums.Pure := by
  intro a0 a1 l2 h0 h1 hm hl hb
  have hbb := XxhP.bytesB_wf hb
  have hl' : l2.length ≤ 140737488351232 := by omega
  have e0 : xxh_Sum32.f a0 l2 = some (X.sum32 a0 l2) := XxhP.sum32f_eq (XxhP.u32_of h0) (Nat.le_trans hl' (by decide)) hbb
  have e1 : xxh_Sum64.f a1 l2 = some (X.sum64 a1 l2) := XxhP.sum64f_eq (XxhP.u64_of h1) (Nat.le_trans hl' (by decide)) hbb
  have q0 : satchelref02_Sum32.f = xxh_Sum32.f := rfl
  have q1 : satchelref02_Sum64.f = xxh_Sum64.f := rfl
  have z : (l2 ++ [1, 2, 3] : List Int).take l2.length = l2 := List.take_left' rfl
  unfold satchellaw02_XxhSums.f
  rw [q0, q1]
  generalize xxh_Sum32.f = F at e0
  generalize xxh_Sum64.f = G at e1
  generalize X.sum32 a0 l2 = x at e0
  generalize X.sum64 a1 l2 = y at e1
  have n1 : (l2 ++ [1, 2, 3] : List Int).length = l2.length + 3 := by simp
  have n2 : ([1, 2, 3] : List Int).length = 3 := rfl
  rw [Option.bind_some, List.nil_append, List.length_nil, Nat.zero_add]
  rw [if_pos (show l2.length < 140737488355328 by omega), Option.bind_some, Option.bind_some]
  rw [n2, if_pos (show l2.length + 3 < 140737488355328 by omega), Option.bind_some]
  rw [if_pos (show (0 : Int) ≤ (l2.length : Int) by omega), n1, if_pos (show (l2.length : Int) ≤ ((l2.length + 3 : Nat) : Int) by omega)]
  rw [Int.toNat_natCast, z, e0, e1, Option.bind_some, Option.bind_some, Option.bind_some, if_pos rfl, Option.bind_some, if_pos rfl]
  rw [strOfNums_size, if_pos (show l2.length + 3 ≤ 9223372036854775807 by omega), XxhP.str_app, beq_self_eq_true]
end Go.Proofs.Ytnkcbkfccbfjpaa.Pure
