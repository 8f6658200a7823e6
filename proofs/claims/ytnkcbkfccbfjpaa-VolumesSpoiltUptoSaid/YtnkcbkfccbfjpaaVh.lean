/- low behind the bytes of a constant string. -/
import Derived.Test.YtnkcbkfccbfjpaaVb
import Derived.Test.YtnkcbkfccbfjpaaXX
import Derived.ArgAppend
namespace Go.Proofs.Ytnkcbkfccbfjpaa.XxhW
open Go.RowKit Go.Proofs.Ytnkcbkfccbfjpaa.QVolumesCuts Go.Proofs.YtnkcbkfccbfjpaaW.PrintWords Go.Proofs.YtnkcbkfccbfjpaaW.PrintLast Go.Proofs.YtnkcbkfccbfjpaaW.PrintMore
set_option linter.unusedVariables false
set_option linter.unusedSimpArgs false
/-- A number's lowest bytes, the lowest first. -/
def lowL (a : Int) (m : Nat) : List Int := (List.range m).map fun i : Nat => a / 2 ^ (8 * i) % 256
theorem lowL_succ (a : Int) (m : Nat) : lowL a (m + 1) = lowL a m ++ [a / 2 ^ (8 * m) % 256] := by
  unfold lowL
  rw [List.range_succ, List.map_append]
  rfl
theorem lowL_len (a : Int) (m : Nat) : (lowL a m).length = m := by simp [lowL]
theorem reads_cells {w : World} {A : Option Addr} {l : List Int} (h : ReadsInt w .u8 A l.length l) : ∀ b, A = some b → ∀ j u, (nums .u8 l)[j]? = some u → w.cell? (b.add j) = some u := by
  rintro b rfl j u hj
  have hjl : j < l.length := by
    rcases Nat.lt_or_ge j l.length with c | c
    · exact c
    · rw [List.getElem?_eq_none (by simp [nums]; omega)] at hj; cases hj
  obtain ⟨ad, e, hh⟩ := h.2.2 (by omega)
  injection e with e
  subst e
  rw [hh j hjl]
  simp only [nums, List.getElem?_map, List.getElem?_eq_getElem hjl, Option.map_some] at hj
  injection hj with hj
  rw [← hj, List.getD_eq_getElem?_getD, List.getElem?_eq_getElem hjl]
  rfl
theorem one_cell (W : World) (v : Value) : ∀ j u, ([v] : List Value)[j]? = some u → (W.alloc (.cells #[v] 5)).cell? ((⟨W.heap.size, 0, none⟩ : Addr).add j) = some u := by
  intro j u hj
  cases j with
  | zero =>
    simp only [List.getElem?_cons_zero, Option.some.injEq] at hj
    subst hj
    exact cell_of_row (W.alloc _) _ 0 _ 5 (0, 0) (heap_alloc_new W _)
  | succ j => simp at hj
set_option maxHeartbeats 4000000 in
set_option maxRecDepth 100000 in
theorem low_first (g : Nat) (l0 : List Int) (a1 : Int) (m : Nat) (w : World) (hr : ReadsInt w .u8 (some ⟨g, 0, none⟩) l0.length l0) (h0 : 0 < l0.length) (hl : l0.length ≤ 1000) (hm : 1 ≤ m) (hm8 : m ≤ 8) :
    Calls Try.prog 79 #[.slice (some ⟨g, 0, none⟩) l0.length l0.length, .int .u64 a1, .int .i64 (m : Int)] w fun e w' => ∃ v, e = .returned v ∧ w'.ownsRow w.heap.size 5 1 v (l0 ++ lowL a1 m).length (nums .u8 (l0 ++ lowL a1 m)) ∧ Below w.heap.size w w' := by
  obtain ⟨i0, hi, hz0, hz1, hz2⟩ := info_parts info5
  have HR := Aside0.mk hr
  have HI := Aside0.mk (And.intro hi (And.intro hz0 (And.intro hz1 hz2)))
  clear hr hi hz0 hz1 hz2
  obtain ⟨LR, hLR⟩ : ∃ L, L = l0 ++ lowL a1 m := ⟨_, rfl⟩
  rw [← hLR]
  have HLR := Aside0.mk hLR
  clear hLR
  go_enter Try.func79, Try.ntmps79
  go_wp2
  go_loopg [0, 9] m (fun kq v0 v9 wc => ∃ i : Nat, kq + i = m ∧ v9 = .int .i64 i ∧ Aside0 (Below w.heap.size w wc) ∧ ((i = 0 ∧ v0 = .slice (some ⟨g, 0, none⟩) l0.length l0.length) ∨ (1 ≤ i ∧ Aside0 (wc.ownsRow w.heap.size 5 1 v0 (l0 ++ lowL a1 i).length (nums .u8 (l0 ++ lowL a1 i))))))
  case atStart => exact ⟨0, by omega, rfl, ⟨Below.refl _ _⟩, .inl ⟨rfl, rfl⟩⟩
  case round =>
    obtain ⟨i, hk, rfl, HB, hcase⟩ := hrel
    cases gk with
    | zero =>
      have hge : ¬ (i : Int) < (m : Int) := by omega
      rcases hcase with ⟨rfl, rfl⟩ | ⟨hi1, HO⟩
      · omega
      have him : i = m := by omega
      subst him
      rw [← HLR.out] at HO
      obtain ⟨A4, c4, rfl⟩ := own_slice HO.out
      go_wp2
      go_ret
      exact ⟨_, rfl, HO.out, HB.out⟩
    | succ k1 =>
      have hlt : (i : Int) < (m : Int) := by omega
      have h80 : (0 : Int) ≤ 8 * (i : Int) := by omega
      have hw8 : IntKind.i64.wrap (8 * (i : Int)) = 8 * (i : Int) := by
        have := IntWalk.wrap64_in (8 * (i : Int)) (by omega)
        rw [i64_w]; exact this
      rcases hcase with ⟨rfl, rfl⟩ | ⟨hi1, HO⟩
      · go_wp2_with (first | (at_builtin; refine wpList_append_grows _ rfl (.tmp 12) (.tmp 18) 22 rfl 5 i0 (.int .u8 0) 1 1 Try.underlying22 HI.out.1 HI.out.2.1 HI.out.2.2.1 HI.out.2.2.2 rfl (by decide) (some ⟨g, 0, none⟩) l0.length l0.length (nums .u8 l0) rfl (fun h => by cases h) (by simp [nums]) (reads_cells (HR.out.below (below_alloc HB.out _))) ⟨wr.heap.size, 0, none⟩ 1 1 [.int .u8 (a1 % 256)] rfl rfl ?hc (by simp [Value.oneCell']) (by omega) (by simp only [maxLen]; omega) (by omega) ?_; (case hc => exact one_cell _ _); intro v5 w5 hO hG; have HO5 := Aside0.mk hO; have HG5 := Aside0.mk hG; clear hO hG))
        go_roundg k1
        case measure => omega
        case rel =>
          refine ⟨1, by omega, by simp, ⟨below_step (below_alloc HB.out _) ((Fr.of_grown HG5.out).below (fun i hi => ⟨hi, by simp⟩))⟩, .inr ⟨Nat.le_refl _, ⟨?_⟩⟩⟩
          have h1 : lowL a1 1 = [a1 % 256] := by
            show [a1 / 2 ^ (8 * 0) % 256] = [a1 % 256]
            rw [show (8 * 0 : Nat) = 0 from rfl, Int.pow_zero, Int.ediv_one]
          have h2 : nums .u8 (l0 ++ lowL a1 1) = nums .u8 l0 ++ [.int .u8 (a1 % 256)] := by rw [h1]; simp [nums]
          have h3 : (l0 ++ lowL a1 1).length = l0.length + 1 := by rw [h1]; simp
          rw [h2, h3]
          exact own_lower HO5.out (below_alloc HB.out _).size
      · obtain ⟨L, hL⟩ : ∃ L, L = l0 ++ lowL a1 i := ⟨_, rfl⟩
        have hll : L.length = l0.length + i := by rw [hL, List.length_append, lowL_len]
        have HX := Aside0.mk (show l0 ++ lowL a1 (i + 1) = L ++ [a1 / 2 ^ (8 * i) % 256] by rw [lowL_succ, hL, List.append_assoc])
        rw [← hL] at HO
        obtain ⟨A4, c4, rfl⟩ := own_slice HO.out
        have hll2 : L.length + 1 ≤ 140737488355328 := by omega
        clear hL hll
        go_wp2_with (first | (at_builtin; refine print_append_num (w0 := w) w.heap.size rfl (.tmp 12) (.tmp 18) 22 5 .u8 1 rfl Try.underlying22 info5 (by decide) (.slice A4 L.length c4) L (a1 / 2 ^ (8 * i) % 256) rfl rfl HO.out HB.out HB.out.size (by omega) ?_; intro v5 w5 hO hB hG hA; have HO5 := Aside0.mk hO; have HB5 := Aside0.mk hB; clear hO hB hG hA))
        go_roundg k1
        case measure => omega
        case rel => exact ⟨i + 1, by omega, by simp, HB5, .inr ⟨by omega, by rw [HX.out]; exact HO5⟩⟩
theorem reads_of_C2 {w : World} {A : Option Addr} {l : List Int} (h : Kd.C (Kd.int .u8) w A l.length l) : ReadsInt w .u8 A l.length l := Kd.reads_of_C h
theorem magic_reads (W : World) : ReadsInt (W.alloc (.cells #[.int .u8 83, .int .u8 65, .int .u8 84, .int .u8 67, .int .u8 72, .int .u8 86, .int .u8 79, .int .u8 76] 5 (8, 9))) .u8 (some ⟨W.heap.size, 0, none⟩) ([83, 65, 84, 67, 72, 86, 79, 76] : List Int).length [83, 65, 84, 67, 72, 86, 79, 76] := by
  refine ⟨rfl, by decide, fun _ => ⟨_, rfl, fun i hi => ?_⟩⟩
  rw [Addr.add_lit, Nat.zero_add, cell_of_row (W.alloc _) _ i _ 5 (8, 9) (heap_alloc_new W _)]
  rcases i with _ | _ | _ | _ | _ | _ | _ | _ | i
  all_goals first | rfl | (exfalso; simp only [List.length_cons, List.length_nil] at hi; omega)
theorem append_marked {W : World} {ops : Array Oper} {rest : List Oper} {o : Oper} {a : Act} {Q : Exit → Act → World → Prop} (hg : o.guard = none) (s x : Operand) (hop : o.op = Op.call { callee := Callee.builtin Builtin.append, args := #[s, x], argTypes := #[22, 22] })
    (g : Nat) (xs ys : List Int) (A : Option Addr) (n m c : Nat) (hs : a.eval s = .slice (some ⟨g, 0, none⟩) n n) (hx : a.eval x = .slice A m c) (hn : xs.length = n) (hm : ys.length = m) (hr : ReadsInt W .u8 (some ⟨g, 0, none⟩) xs.length xs) (hy : ReadsInt W .u8 A ys.length ys) (h0 : 0 < ys.length) (hl : xs.length + ys.length ≤ 1000)
    (hK : ∀ v w', w'.ownsRow W.heap.size 5 1 v (xs ++ ys).length (nums .u8 (xs ++ ys)) → Below W.heap.size W w' → wpList Try.prog ops Q rest (a.put o.dst v) w') : wpList Try.prog ops Q (o :: rest) a W := by
  subst hn hm
  obtain ⟨i0, hi, hz0, hz1, hz2⟩ := info_parts info5
  obtain ⟨ad, hA, _⟩ := hy.2.2 h0
  subst hA
  have h1 : nums .u8 (xs ++ ys) = nums .u8 xs ++ nums .u8 ys := by simp [nums]
  have h2 : (xs ++ ys).length = xs.length + ys.length := List.length_append
  refine wpList_append_grows W hg s x 22 hop 5 i0 (.int .u8 0) 1 1 Try.underlying22 hi hz0 hz1 hz2 rfl (by decide) (some ⟨g, 0, none⟩) xs.length xs.length (nums .u8 xs) hs (fun h => by cases h) (by simp [nums]) (reads_cells hr) ad ys.length c (nums .u8 ys) hx (by simp [nums]) (reads_cells hy ad rfl) (by simp [nums, Value.oneCell']) (by omega) (by simp only [maxLen]; omega) (by omega) ?_
  intro v w' ho hgr
  refine hK v w' ?_ ((Fr.of_grown hgr).below (fun i hi => ⟨hi, by simp⟩))
  rw [h1, h2]
  exact ho
theorem low_val (a : Int) (m : Nat) (hm : m ≤ 8) : ∀ (k i : Nat) (l r : List Int), i ≤ m → volumes_low.l0 k (l ++ lowL a i) a (m : Int) (i : Int) = some r → r = l ++ lowL a m := by
  intro k
  induction k with
  | zero => intro i l r _ h; simp [volumes_low.l0] at h
  | succ k ih =>
    intro i l r hi h
    rw [volumes_low.l0] at h
    by_cases c : (i : Int) < (m : Int)
    · have w1 : wrap64 (8 * (i : Int)) = 8 * (i : Int) := IntWalk.wrap64_in _ (by omega)
      have w2 : wrap64 ((i : Int) + 1) = ((i + 1 : Nat) : Int) := by clear w1; rw [IntWalk.wrap64_in _ (by omega)]; omega
      rw [if_pos c, w1, w2, if_pos (by clear w1 w2; omega)] at h
      by_cases c2 : (l ++ lowL a i).length < 140737488355328
      · have e : shr .u64 a (8 * (i : Int)) = a / 2 ^ (8 * i) := by
          unfold shr
          rw [show min (8 * (i : Int)).toNat IntKind.u64.bits = 8 * i by
            rw [show (8 * (i : Int)).toNat = 8 * i by clear w1 w2; omega, show IntKind.u64.bits = 64 from rfl]
            clear w1 w2
            omega]
        rw [if_pos c2, e, List.append_assoc, ← lowL_succ] at h
        exact ih (i + 1) l r (by clear w1 w2; omega) h
      · rw [if_neg c2] at h
        cases h
    · rw [if_neg c] at h
      have : i = m := by omega
      subst this
      exact (Option.some.inj h).symm
theorem low_magic (k : Nat) (a1 : Int) (t : List Int) (W : World) (h : volumes_low.f k [83, 65, 84, 67, 72, 86, 79, 76] a1 8 = some t) :
    Calls Try.prog 79 #[.slice (some ⟨W.heap.size, 0, none⟩) 8 8, .int .u64 a1, .int .i64 8] (W.alloc (.cells #[.int .u8 83, .int .u8 65, .int .u8 84, .int .u8 67, .int .u8 72, .int .u8 86, .int .u8 79, .int .u8 76] 5 (8, 9))) fun e w' =>
      ∃ v, e = .returned v ∧ Kd.R (Kd.int .u8) 5 w' W.heap.size (fun _ => True) v t ∧ Below (W.alloc (.cells #[.int .u8 83, .int .u8 65, .int .u8 84, .int .u8 67, .int .u8 72, .int .u8 86, .int .u8 79, .int .u8 76] 5 (8, 9))).heap.size (W.alloc (.cells #[.int .u8 83, .int .u8 65, .int .u8 84, .int .u8 67, .int .u8 72, .int .u8 86, .int .u8 79, .int .u8 76] 5 (8, 9))) w' := by
  have ht := low_val a1 8 (by decide) k 0 [83, 65, 84, 67, 72, 86, 79, 76] t (by decide) (by rw [show lowL a1 0 = [] from rfl, List.append_nil]; exact h)
  have hr := magic_reads W
  refine (low_first W.heap.size [83, 65, 84, 67, 72, 86, 79, 76] a1 8 _ hr (by decide) (by decide) (by decide) (by decide)).mono ?_
  rintro e w' ⟨v, rfl, ho, hb⟩
  rw [← ht] at ho
  exact ⟨v, rfl, Kd.R_of_own (own_lower ho (below_alloc (Below.refl _ _) _).size) (fun _ _ => trivial), hb⟩
end Go.Proofs.Ytnkcbkfccbfjpaa.XxhW
