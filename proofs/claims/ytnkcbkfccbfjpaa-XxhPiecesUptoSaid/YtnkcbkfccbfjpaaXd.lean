/- Contracts of xxh's begun32 and takes (32 bits). Conditions: the lengths stay below 2^47; bytes are bytes. -/
import Derived.Test.YtnkcbkfccbfjpaaXc
namespace Go.Proofs.Ytnkcbkfccbfjpaa.XxhW
open Go.RowKit Go.Proofs.YtnkcbkfccbfjpaaW.PrintWords Go.Proofs.YtnkcbkfccbfjpaaW.PrintLast Go.Proofs.YtnkcbkfccbfjpaaW.PrintMore
set_option linter.unusedVariables false
set_option linter.unusedSimpArgs false
theorem IsD.alloc {w : World} {g : Nat} {r : Value} {n s : Int} {v : X.V4} (h : IsD w g r n s v) (o : Obj) : IsD (w.alloc o) g r n s v :=
  (below_alloc (Below.refl _ _) o).block g (blk_lt h) |>.trans h

theorem begun_calls (s : Int) (w : World) (h0 : 0 ≤ s) (h1 : s < 4294967296) :
    Calls Try.prog 52 #[.int .u32 s] w fun e w' => e = .returned (.pointer (some ⟨w.heap.size, 0, none⟩)) ∧ IsD w' w.heap.size (.slice none 0 0) 0 s (X.init32 s) ∧ Below w.heap.size w w' := by
  go_enter Try.func52, Try.ntmps52
  go_wp2
  go_ret
  refine ⟨rfl, ?_, below_alloc (Below.refl _ _) _⟩
  have := heap_alloc_new w (.cells #[.slice none 0 0, .int .u64 0, .int .u32 s, .int .u32 (X.init32 s).a, .int .u32 (X.init32 s).b, .int .u32 (X.init32 s).c, .int .u32 (X.init32 s).d] 104)
  simpa [IsD, X.init32] using this

set_option maxHeartbeats 1000000 in
theorem takes_calls (A : Option Addr) (c : Nat) (b rl : List Int) (g base N : Nat) (rv : Value) (s : Int) (v : X.V4) (w : World) (hr : ReadsInt w .u8 A b.length b) (hb : Bytes (rl ++ b))
    (hd : IsD w g rv N s v) (ho : w.ownsRow base 5 1 rv rl.length (nums .u8 rl)) (hbase : base ≤ w.heap.size) (hl : rl.length + b.length ≤ 140737488355327) (hN : N ≤ 4611686018427387904) :
    Calls Try.prog 53 #[.pointer (some ⟨g, 0, none⟩), .slice A b.length c] w fun e w' => e = .returned (.tuple #[]) ∧
      ∃ rv', IsD w' g rv' ((N + b.length : Nat) : Int) s (X.run32 ((rl ++ b).length / 16) v (rl ++ b)) ∧ w'.ownsRow w.heap.size 5 1 rv' (X.rest 16 (rl ++ b)).length (nums .u8 (X.rest 16 (rl ++ b))) ∧
        Fr w w' (fun i => i ≠ g ∧ some i ≠ rv.ownBlock) := by
  have hB := below_alloc (Below.refl w.heap.size w) (.cells #[.pointer (some ⟨g, 0, none⟩)] 45)
  have HC := Aside0.mk (pieces_calls A c b rl w.heap.size g base N rv s v (w.alloc (.cells #[.pointer (some ⟨g, 0, none⟩)] 45)) (hr.below hB) hb (heap_alloc_new _ _) (hd.alloc _) (ho.alloc _)
    (Nat.le_trans hbase hB.size) hl hN)
  clear hr hd ho hb
  go_enter Try.func53, Try.ntmps53
  go_wp2_with (first | (go_at_call 82; refine HC.out.mono ?_; rintro e w' ⟨rfl, hp⟩; have HP := Aside0.mk hp; clear hp))
  go_end0
  obtain ⟨rv', d, o, f⟩ := HP.out
  exact ⟨rfl, rv', d, own_lower o hB.size, (Fr.of_below hB (fun i => i ≠ g ∧ some i ≠ rv.ownBlock)).then' f (fun _ _ h => h)⟩
end Go.Proofs.Ytnkcbkfccbfjpaa.XxhW
