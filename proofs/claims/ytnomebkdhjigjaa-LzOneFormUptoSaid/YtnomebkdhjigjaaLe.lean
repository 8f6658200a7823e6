/- Contract of lz.Decode: what comes out, the place and the error, as a plain function of the bytes, the bytes ahead and the bound. Conditions: fewer than 2^40 bytes, bytes are bytes. -/
import Derived.Test.YtnomebkdhjigjaaLd
namespace Go.Proofs.Ytnomebkdhjigjaa.W
open Go.RowKit Go.Proofs.YtnomebkdhjigjaaW.PrintWords Go.Proofs.YtnomebkdhjigjaaW.PrintLast Go.Proofs.YtnomebkdhjigjaaW.PrintMore
set_option linter.unusedVariables false
set_option linter.unusedSimpArgs false
/-- Decode, as a plain function. -/
def decode (b ahead : List Int) (most : Int) : List Int × Int × Int :=
  if most < 0 ∨ most > 4194304 then ([], 0, 1) else
  if (dec b (window ahead).length most (b.length + 1) 0 (window ahead)).2.1 ≠ 0 then ([], (dec b (window ahead).length most (b.length + 1) 0 (window ahead)).1, (dec b (window ahead).length most (b.length + 1) 0 (window ahead)).2.1) else
  ((dec b (window ahead).length most (b.length + 1) 0 (window ahead)).2.2.drop (window ahead).length, 0, 0)
set_option maxHeartbeats 2000000 in
set_option maxRecDepth 100000 in
theorem Decode_calls (A A2 : Option Addr) (c c2 : Nat) (b ahead : List Int) (most : Int) (w : World) (hr : ReadsInt w .u8 A b.length b) (hc : b.length ≤ c) (hb : Byt b) (hl : b.length ≤ 140737488355327) (hr2 : ReadsInt w .u8 A2 ahead.length ahead) (hc2 : ahead.length ≤ c2) (hl2 : ahead.length ≤ 140737488355327) :
    Calls Try.prog 38 #[.slice A b.length c, .slice A2 ahead.length c2, .int .i64 most] w fun e w' => ∃ A' c', e = .returned (.tuple #[.slice A' (decode b ahead most).1.length c', .int .i64 (decode b ahead most).2.1, .int .i64 (decode b ahead most).2.2]) ∧
      w'.ownsRow w.heap.size 5 1 (.slice A' (decode b ahead most).1.length c') (decode b ahead most).1.length (nums .u8 (decode b ahead most).1) ∧ Below w.heap.size w w' := by
  by_cases hm : most < 0
  · have e1 : decode b ahead most = ([], 0, 1) := if_pos (.inl hm)
    rw [e1]
    clear hr hr2
    go_enter Try.func38, Try.ntmps38
    go_wp2
    go_ret3
    exact ⟨none, 0, rfl, own_nil _ _ _ _, Below.refl _ _⟩
  · by_cases hm2 : most > 4194304
    · have e1 : decode b ahead most = ([], 0, 1) := if_pos (.inr hm2)
      rw [e1]
      clear hr hr2
      go_enter Try.func38, Try.ntmps38
      go_wp2
      go_ret3
      exact ⟨none, 0, rfl, own_nil _ _ _ _, Below.refl _ _⟩
    · obtain ⟨R, hR⟩ : ∃ R, R = dec b (window ahead).length most (b.length + 1) 0 (window ahead) := ⟨_, rfl⟩
      have e1 : decode b ahead most = if R.2.1 ≠ 0 then ([], R.1, R.2.1) else (R.2.2.drop (window ahead).length, 0, 0) := by
        rw [hR]
        exact if_neg (by omega)
      have HC1 := Aside0.mk (newPlayer_calls A2 c2 ahead most w hr2 hc2 hl2)
      have HR := Aside0.mk hr
      have HRR := Aside0.mk hR
      have hwl := (window_len ahead).1
      obtain ⟨D, hD⟩ : ∃ D, D = decode b ahead most := ⟨_, rfl⟩
      rw [← hD] at e1 ⊢
      have HE := Aside0.mk e1
      clear e1 hD hr hr2 hR
      go_enter Try.func38, Try.ntmps38
      go_upto_region 5 with (go_at_call 70; refine HC1.out.mono ?_; rintro e w1 ⟨g, va, rfl, hg, hp, hB⟩; have HP := Aside0.mk hp; have HB := Aside0.mk hB; clear hp hB)
      have hgl : w.heap.size ≤ w1.heap.size := HB.out.size
      have f1 : Fr w1 (w1.alloc (.cells #[.pointer (some ⟨g, 0, none⟩)] 101)) (fun _ => True) := Fr.alloc _ _
      have f2 : Fr (w1.alloc (.cells #[.pointer (some ⟨g, 0, none⟩)] 101)) ((w1.alloc (.cells #[.pointer (some ⟨g, 0, none⟩)] 101)).alloc (.cells #[.int .i64 0] 3)) (fun _ => True) := Fr.alloc _ _
      have HI := Aside0.mk (show DInv w ((w1.alloc (.cells #[.pointer (some ⟨g, 0, none⟩)] 101)).alloc (.cells #[.int .i64 0] 3)) g w1.heap.size (w1.heap.size + 1) (window ahead) va ((window ahead).length : Nat) most 0 from
        ⟨below_alloc (below_alloc HB.out _) _, hg, by omega, HP.out.fr (f1.then f2) trivial (fun _ _ => trivial), f2.heap (heap_alloc_new w1 _) trivial, by
          have h := heap_alloc_new (w1.alloc (.cells #[.pointer (some ⟨g, 0, none⟩)] 101)) (.cells #[.int .i64 0] 3)
          simpa using h, by omega, by omega, by omega, by omega⟩)
      clear f1 f2
      generalize (w1.alloc (.cells #[.pointer (some ⟨g, 0, none⟩)] 101)).alloc (.cells #[.int .i64 0] 3) = w2 at HI ⊢
      have HW := Aside0.mk (walk_calls w g w1.heap.size (w1.heap.size + 1) A c b (window ahead) va ((window ahead).length : Nat) most 0 w2 HI.out HR.out hc hb hl)
      rw [← HRR.out] at HW
      go_upto_if 32 with (go_at_call 49; refine HW.out.mono ?_; rintro e w3 ⟨rfl, v3, l3, hi3⟩; have HI3 := Aside0.mk hi3; clear hi3)
      clear HW HI
      by_cases hE : R.2.1 = 0
      · have e2 : D = (R.2.2.drop (window ahead).length, 0, 0) := by rw [HE.out, if_neg (by omega)]
        obtain ⟨L, hL⟩ : ∃ L, L = R.2.2 := ⟨_, rfl⟩
        rw [← hL] at HI3 e2
        have HPl := Aside0.mk (plain_calls g w.heap.size L v3 (window ahead).length most w3 HI3.out.p (by have := HI3.out.b1; omega) (by have := HI3.out.len; omega))
        have xc : w3.cell? ⟨w1.heap.size, 0, none⟩ = some (.pointer (some ⟨g, 0, none⟩)) := cell_of_one HI3.out.c
        obtain ⟨xs, hxs⟩ : ∃ xs, xs = L.drop (window ahead).length := ⟨_, rfl⟩
        rw [← hxs] at HPl e2
        have HE2 := Aside0.mk e2
        clear e2 hL hxs
        go_wp2_with (go_at_call 74; refine HPl.out.mono ?_; rintro e w4 ⟨A4, c4, rfl, ho4, hb4⟩; have HO4 := Aside0.mk ho4; have HB4 := Aside0.mk hb4; clear ho4 hb4)
        go_ret3
        rw [HE2.out]
        exact ⟨A4, c4, rfl, own_lower HO4.out HI3.out.B.size, below_step HI3.out.B HB4.out⟩
      · have e2 : D = ([], R.1, R.2.1) := by rw [HE.out, if_pos hE]
        have HE2 := Aside0.mk e2
        clear e2
        go_wp2
        go_ret3
        rw [HE2.out]
        exact ⟨none, 0, rfl, own_nil _ _ _ _, HI3.out.B⟩
end Go.Proofs.Ytnomebkdhjigjaa.W
