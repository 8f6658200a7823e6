/- Contract of xxh's pieces, at digests of 32 bits: what waited and what came is taken in whole stripes, what is left waits. Conditions: the lengths stay below 2^47; bytes are bytes. -/
import Derived.Test.YtnkcbkfccbfjpaaXb
namespace Go.Proofs.Ytnkcbkfccbfjpaa.XxhW
open Go.RowKit Go.Proofs.YtnkcbkfccbfjpaaW.PrintWords Go.Proofs.YtnkcbkfccbfjpaaW.PrintLast Go.Proofs.YtnkcbkfccbfjpaaW.PrintMore
set_option linter.unusedVariables false
set_option linter.unusedSimpArgs false
/-- Behind what happened, the world is as it was at the blocks that ok holds of. -/
structure Fr (w w' : World) (ok : Nat → Prop) : Prop where
  os : w'.os = w.os
  tape : w'.tape = w.tape
  output : w'.output = w.output
  size : w.heap.size ≤ w'.heap.size
  block : ∀ i, i < w.heap.size → ok i → w'.heap[i]? = w.heap[i]?
theorem Fr.refl (w : World) (ok : Nat → Prop) : Fr w w ok := ⟨rfl, rfl, rfl, Nat.le_refl _, fun _ _ _ => rfl⟩
theorem Fr.then {w w1 w2 : World} {ok : Nat → Prop} (h : Fr w w1 ok) (h' : Fr w1 w2 ok) : Fr w w2 ok :=
  ⟨h'.os.trans h.os, h'.tape.trans h.tape, h'.output.trans h.output, Nat.le_trans h.size h'.size, fun i hi ho => (h'.block i (Nat.lt_of_lt_of_le hi h.size) ho).trans (h.block i hi ho)⟩
theorem Fr.mono {w w1 : World} {ok ok' : Nat → Prop} (h : Fr w w1 ok) (hk : ∀ i, i < w.heap.size → ok' i → ok i) : Fr w w1 ok' := ⟨h.os, h.tape, h.output, h.size, fun i hi ho => h.block i hi (hk i hi ho)⟩
/-- The second step speaks of the blocks that stood ahead of the first alone. -/
theorem Fr.then' {w w1 w2 : World} {ok ok' : Nat → Prop} (h : Fr w w1 ok) (h' : Fr w1 w2 ok') (hk : ∀ i, i < w.heap.size → ok i → ok' i) : Fr w w2 ok :=
  ⟨h'.os.trans h.os, h'.tape.trans h.tape, h'.output.trans h.output, Nat.le_trans h.size h'.size, fun i hi ho => (h'.block i (Nat.lt_of_lt_of_le hi h.size) (hk i hi ho)).trans (h.block i hi ho)⟩
theorem Fr.of_grown {w w1 : World} {row : Option Nat} (h : w.grownBy w1 row) : Fr w w1 (fun i => some i ≠ row) := ⟨h.os, h.tape, h.output, h.size, fun i hi ho => h.block i hi ho⟩
theorem Fr.of_below {w w1 : World} (h : Below w.heap.size w w1) (ok : Nat → Prop) : Fr w w1 ok := ⟨h.os, h.tape, h.output, h.size, fun i hi _ => h.block i hi⟩
theorem Fr.below {w w1 : World} {ok : Nat → Prop} {B : Nat} (h : Fr w w1 ok) (hk : ∀ i, i < B → i < w.heap.size ∧ ok i) : Below B w w1 := ⟨h.os, h.tape, h.output, h.size, fun i hi => h.block i (hk i hi).1 (hk i hi).2⟩
theorem Fr.set {w : World} (p : Addr) (u : Value) : Fr w (w.setCell p u) (fun i => i ≠ p.block) := ⟨rfl, rfl, rfl, by simp [World.setCell], fun i _ hi => Below.heap_setCell w p u i hi⟩
theorem Fr.heap {w w1 : World} {ok : Nat → Prop} (h : Fr w w1 ok) {i : Nat} {o : Obj} (hb : w.heap[i]? = some o) (hi : ok i) : w1.heap[i]? = some o := (h.block i (blk_lt hb) hi).trans hb
theorem Fr.cell {w w1 : World} {ok : Nat → Prop} (h : Fr w w1 ok) {p : Addr} {u : Value} (hc : w.cell? p = some u) (hi : ok p.block) : w1.cell? p = some u := by
  have := h.block p.block (World.block_lt_of_cell? w p hc) hi
  simpa [World.cell?, this] using hc
theorem add_block (ad : Addr) (i : Nat) : (ad.add i).block = ad.block := by unfold Addr.add; split <;> rfl
theorem reads_fr {w w1 : World} {ok : Nat → Prop} (h : Fr w w1 ok) {k : IntKind} {A : Option Addr} {n : Nat} {l : List Int} (hr : ReadsInt w k A n l) (hi : ∀ ad, A = some ad → 0 < n → ok ad.block) : ReadsInt w1 k A n l :=
  ⟨hr.1, hr.2.1, fun h0 => by
    obtain ⟨ad, e, hc⟩ := hr.2.2 h0
    exact ⟨ad, e, fun j hj => h.cell (hc j hj) (by rw [add_block]; exact hi ad e h0)⟩⟩
theorem rd_of_reads {w : World} {ad : Addr} {n : Nat} {l : List Int} (hr : ReadsInt w .u8 (some ad) n l) : Rd w ad l := fun i hi => by
  obtain ⟨ad', e, hc⟩ := hr.2.2 (by have := hr.1; omega)
  cases e
  exact hc i (by have := hr.1; omega)

/-- Bytes that are read lie in no block whose cells are no bytes. -/
theorem apart_of_reads {w : World} {k : IntKind} {ad : Addr} {n g : Nat} {t : TypeId} {l : List Int} {cs : Array Value} (hr : ReadsInt w k (some ad) n l) (h0 : 0 < n) (hd : w.heap[g]? = some (.cells cs t (0, 0)))
    (hcs : ∀ (o : Nat) (k' : IntKind) (z : Int), cs[o]? = some (.int k' z) → k' ≠ k) : ad.block ≠ g := by
  intro hq
  obtain ⟨ad', e', hc⟩ := hr.2.2 h0
  cases e'
  have hc0 := hc 0 h0
  rw [Addr.add_zero'] at hc0
  unfold World.cell? at hc0
  rw [hq, hd] at hc0
  simp only at hc0
  split at hc0
  · cases hc0
  · exact hcs _ _ _ hc0 rfl

/-- n rounds and one more. -/
theorem run_snoc (j : Nat) : ∀ (v : X.V4) (l : List Int), X.run32 (j + 1) v l = X.stripe32 (X.run32 j v l) (l.drop (16 * j)) := by
  induction j with
  | zero => intro v l; rfl
  | succ j ih =>
    intro v l
    rw [X.run32, ih]
    rw [X.run32, List.drop_drop]
    congr 2
    omega

theorem Bytes.take {l : List Int} (h : Bytes l) (k : Nat) : Bytes (l.take k) := fun i => by
  have := h i
  by_cases hi : i < k
  · simpa [X.at', List.getD_eq_getElem?_getD, List.getElem?_take, hi] using this
  · simp [X.at', List.getD_eq_getElem?_getD, List.getElem?_take, hi]
theorem le_take (l : List Int) (k m : Nat) (h : k + 4 ≤ m) : X.le32 ((l.take m).drop k) = X.le32 (l.drop k) := by
  have e : ∀ i, i < 4 → X.at' ((l.take m).drop k) i = X.at' (l.drop k) i := fun i hi => by
    have : k + i < m := by omega
    simp [X.at', List.getD_eq_getElem?_getD, List.getElem?_take, List.getElem?_drop, this]
  simp only [X.le32, e 0 (by omega), e 1 (by omega), e 2 (by omega), e 3 (by omega)]
theorem stripe_take (v : X.V4) (l : List Int) (h : 16 ≤ l.length) : X.stripe32 v (l.take 16) = X.stripe32 v l := by
  have e0 := le_take l 0 16 (by omega)
  simp only [List.drop_zero] at e0
  simp only [X.stripe32, e0, le_take l 4 16 (by omega), le_take l 8 16 (by omega), le_take l 12 16 (by omega)]
theorem own_lower {w : World} {base base' : Nat} {e : TypeId} {size n : Nat} {v : Value} {xs : List Value} (h : w.ownsRow base e size v n xs) (hb : base' ≤ base) : w.ownsRow base' e size v n xs := by
  refine ⟨h.1, ?_⟩
  rcases h.2 with h | ⟨g, cap, cur, a, b, c⟩
  · exact .inl h
  · exact .inr ⟨g, cap, cur, a, Nat.le_trans hb b, c⟩

/-- What waits reads as this; it lies apart from block g. -/
def Waits (w : World) (g : Nat) (A : Option Addr) (n c : Nat) (l : List Int) : Prop := ReadsInt w .u8 A n l ∧ n ≤ c

theorem own_waits {w : World} {base g : Nat} {v : Value} {l : List Int} (h : w.ownsRow base 5 1 v l.length (nums .u8 l)) : ∃ A c, v = .slice A l.length c ∧ Waits w g A l.length c l := by
  obtain ⟨A, c, e, hr⟩ := own_reads h
  refine ⟨A, c, e, hr, ?_⟩
  rcases h.2 with ⟨hv, h0⟩ | ⟨q, cap, cur, hv, _, _, hn, _⟩
  · rw [h0]; exact Nat.zero_le _
  · rw [hv] at e; injection e with _ _ e3; omega
theorem apart_D {w : World} {ad : Addr} {n g m c : Nat} {A : Option Addr} {N s : Int} {v : X.V4} {l : List Int} (hr : ReadsInt w .u8 (some ad) n l) (h0 : 0 < n) (hd : IsD w g (.slice A m c) N s v) : ad.block ≠ g :=
  apart_of_reads hr h0 hd (fun o k z h => by
    rcases o with _ | _ | _ | _ | _ | _ | _ | o <;> simp at h
    all_goals (obtain ⟨rfl, _⟩ := h; decide))

set_option maxHeartbeats 4000000 in
set_option maxRecDepth 100000 in
theorem pieces_calls (A : Option Addr) (c : Nat) (b rl : List Int) (bx g base N : Nat) (rv : Value) (s : Int) (v : X.V4) (w : World) (hr : ReadsInt w .u8 A b.length b) (hb : Bytes (rl ++ b))
    (hx : w.heap[bx]? = some (.cells #[.pointer (some ⟨g, 0, none⟩)] 45 (0, 0))) (hd : IsD w g rv N s v) (ho : w.ownsRow base 5 1 rv rl.length (nums .u8 rl)) (hbase : base ≤ w.heap.size)
    (hl : rl.length + b.length ≤ 140737488355327) (hN : N ≤ 4611686018427387904) :
    Calls Try.prog 82 #[.pointer (some ⟨g, 0, none⟩), .slice A b.length c, .int .i64 16, .func (.func 83) #[] #[.pointer (some ⟨bx, 0, none⟩)]] w fun e w' => e = .returned (.tuple #[]) ∧
      ∃ rv', IsD w' g rv' ((N + b.length : Nat) : Int) s (X.run32 ((rl ++ b).length / 16) v (rl ++ b)) ∧ w'.ownsRow w.heap.size 5 1 rv' (X.rest 16 (rl ++ b)).length (nums .u8 (X.rest 16 (rl ++ b))) ∧
        Fr w w' (fun i => i ≠ g ∧ some i ≠ rv.ownBlock) := by
  obtain ⟨al, eal⟩ : ∃ al, al = rl ++ b := ⟨_, rfl⟩
  rw [← eal] at hb ⊢
  have hal : al.length = rl.length + b.length := by rw [eal]; simp
  have Hal := Aside0.mk hal
  have Heal := Aside0.mk eal
  clear hal eal
  have hneg : bx ≠ g := blk_ne hx hd (by decide)
  obtain ⟨x0, f0⟩ := IsD.at hd 0 rv rfl
  obtain ⟨x1, f1⟩ := IsD.at hd 1 (.int .u64 N) rfl
  have n0 : (0 : Int) ≤ (N : Int) := by omega
  have nb0 : (0 : Int) ≤ (b.length : Int) := by omega
  have nb1 : (b.length : Int) ≤ 140737488355327 := by omega
  have nn : (N : Int) ≤ 4611686018427387904 := by omega
  have F1 : Fr w (w.setCell ⟨g, 1, none⟩ (.int .u64 ((N : Int) + (b.length : Int)))) (fun i => i ≠ g) := Fr.set ⟨g, 1, none⟩ _
  have D1 : (w.setCell ⟨g, 1, none⟩ (.int .u64 ((N : Int) + (b.length : Int)))).heap[g]? = some (.cells #[rv, .int .u64 ((N : Int) + (b.length : Int)), .int .u32 s, .int .u32 v.a, .int .u32 v.b, .int .u32 v.c, .int .u32 v.d] 104 (0, 0)) := blk_set hd 1 _
  have hag : ∀ ad, A = some ad → 0 < b.length → ad.block ≠ g := fun ad e h0 => apart_of_reads (e ▸ hr) h0 hd (fun o k z h => by
    rcases o with _ | _ | _ | _ | _ | _ | _ | o <;> simp at h
    · rcases ho.2 with ⟨hv, _⟩ | ⟨_, _, _, hv, _⟩ <;> rw [hv] at h <;> cases h
    all_goals (obtain ⟨rfl, _⟩ := h; decide))
  have hne : some g ≠ rv.ownBlock := own_ne ho (show w.heap[g]? = some (.cells _ 104 (0, 0)) from hd) (by decide)
  have O1 : (w.setCell ⟨g, 1, none⟩ (.int .u64 ((N : Int) + (b.length : Int)))).ownsRow base 5 1 rv rl.length (nums .u8 rl) := own_setCell ho hne _
  have hrv : ∃ A n c, rv = .slice A n c := by obtain ⟨A, c, e⟩ := own_slice ho; exact ⟨_, _, _, e⟩
  have hrow : some bx ≠ rv.ownBlock := own_ne ho hx (by decide)
  have HR1 := Aside0.mk (reads_fr F1 hr (fun ad e h0 => hag ad e h0))
  have HO1 := Aside0.mk O1
  have HD1 := Aside0.mk D1
  have HF1 := Aside0.mk F1
  have HB1 := Aside0.mk (Nat.le_trans hbase F1.size)
  clear O1 D1 F1 hag hr ho
  go_enter Try.func82, Try.ntmps82
  go_wp2_with (first | (at_builtin; refine print_append_row (w0 := (w.setCell ⟨g, 1, none⟩ (.int .u64 ((N : Int) + (b.length : Int))))) base rfl (.tmp 22) (.tmp 23) 22 5 .u8 1 rfl Try.underlying22 info5 (by decide) rv rl b A b.length c rfl rfl HO1.out HR1.out (Below.refl _ _) HB1.out (by omega) ?_; intro v1 w2 hO hB hG hA; rw [← Heal.out] at hO; have HD2 := Aside0.mk (blk_grown HD1.out hG hne); have x2 : w2.cell? ⟨g, 0, none⟩ = some rv := cell_of_row w2 g 0 _ 104 (0, 0) HD2.out; have f2 : w2.frozen? ⟨g, 0, none⟩ = false := blk_frozen HD2.out 0; obtain ⟨A2, c2, ev, hW⟩ := own_waits (g := g) hO; subst ev; have HW2 := Aside0.mk hW; clear hW; have HO2 := Aside0.mk hO; have HG2 := Aside0.mk hG; have HA2 := Aside0.mk hA; clear hO hB hG hA))
  have e9 : ((N : Int) + (b.length : Int)) = ((N + b.length : Nat) : Int) := by omega
  obtain ⟨w3, hw3⟩ : ∃ z, z = w2.setCell ⟨g, 0, none⟩ (.slice A2 al.length c2) := ⟨_, rfl⟩
  rw [← hw3]
  have F3 : Fr w w3 (fun i => i ≠ g ∧ some i ≠ rv.ownBlock) := by
    rw [hw3]
    exact ((HF1.out.mono (fun i _ h => h.1)).then' (Fr.of_grown HG2.out) (fun i _ h => h.2)).then' (Fr.set ⟨g, 0, none⟩ _) (fun i _ h => h.1)
  have D3 : IsD w3 g (.slice A2 al.length c2) (N + b.length : Nat) s (X.run32 0 v al) := by
    rw [hw3, ← e9]; exact blk_set HD2.out 0 _
  have W3 : Waits w3 g A2 (al.length - 16 * 0) c2 (al.drop (16 * 0)) := by
    rw [hw3]
    exact ⟨reads_fr (Fr.set ⟨g, 0, none⟩ _) HW2.out.1 (fun ad e h0 => apart_of_reads (e ▸ HW2.out.1) h0 HD2.out (fun o k z h => by
      rcases o with _ | _ | _ | _ | _ | _ | _ | o <;> simp at h
      · exact absurd h (by rcases hrv with ⟨_, _, _, e⟩; rw [e]; simp)
      all_goals (obtain ⟨rfl, _⟩ := h; decide))), HW2.out.2⟩
  clear e9 hw3 HA2 HG2 HO2 HW2 HD2 HF1 HD1 HO1 HR1 HB1 x2 f2 x0 f0 x1 f1
  have HF := Aside0.mk F3
  have HD := Aside0.mk D3
  have HW := Aside0.mk W3
  clear F3 D3 W3
  go_loopg [] (al.length / 16) (fun kq wc => ∃ (j : Nat) (A' : Option Addr) (c' : Nat), kq + j = al.length / 16 ∧ Aside0 (IsD wc g (.slice A' (al.length - 16 * j) c') (N + b.length : Nat) s (X.run32 j v al)) ∧
    Aside0 (Waits wc g A' (al.length - 16 * j) c' (al.drop (16 * j))) ∧ Aside0 (Fr w wc (fun i => i ≠ g ∧ some i ≠ rv.ownBlock)))
  case atStart => exact ⟨0, A2, c2, by omega, HD, HW, HF⟩
  case round =>
    clear HD HW HF
    obtain ⟨j, A', c', hk, HD, HW, HF⟩ := hrel
    obtain ⟨L, eL⟩ : ∃ L, L = al.drop (16 * j) := ⟨_, rfl⟩
    have eLl : al.length - 16 * j = L.length := by rw [eL]; simp
    rw [eLl] at HD HW
    rw [← eL] at HW
    have HeL := Aside0.mk eL
    have HeLl := Aside0.mk eLl
    have hLs : L.length ≤ 140737488355327 := by have := Hal.out; omega
    have hLb : Bytes L := by rw [eL]; exact hb.drop _
    have HLb := Aside0.mk hLb
    clear eL eLl hLb
    have HbX := Aside0.mk (HF.out.heap hx ⟨hneg, fun e => hrow e⟩)
    have hbx : wr.cell? ⟨bx, 0, none⟩ = some (.pointer (some ⟨g, 0, none⟩)) := cell_of_one HbX.out
    obtain ⟨y0, g0⟩ := IsD.at HD.out 0 (.slice A' L.length c') rfl
    have hLc : L.length ≤ c' := HW.out.2
    cases gk with
    | zero =>
      have hlt : L.length < 16 := by have := HeLl.out; have := Nat.div_add_mod al.length 16; have := Nat.mod_lt al.length (show 0 < 16 by decide); omega
      have hlt' : (L.length : Int) < 16 := by omega
      have Hk := Aside0.mk hk
      have HLs := Aside0.mk hLs
      have HLc := Aside0.mk hLc
      clear hk hd hrv hb hl hN hLc hbase
      go_wp2_with (first | ((with_reducible refine gate_callee (f := 68) rfl ?_); refine goesL_ (some 56) rfl rfl Try.func68 (by kernel_rfl) rfl #[.slice A' L.length c'] rfl (by (try simp only [List.map_toArray, List.map_cons, List.map_nil]); first | done | rfl) ?_; refine (clone_any A' c' L _ HW.out.1 hLs).mono ?_; rintro e w5 ⟨A5, c5, rfl, hO5, hB5⟩; refine ⟨_, rfl, ?_⟩; have HO5 := Aside0.mk hO5; have HB5 := Aside0.mk hB5; have HD5 := Aside0.mk (show w5.heap[g]? = some (.cells _ 104 (0, 0)) from (hB5.block g (blk_lt HD.out)).trans HD.out); have f5 : w5.frozen? ⟨g, 0, none⟩ = false := blk_frozen HD5.out 0; have x5 : w5.cell? ⟨g, 0, none⟩ = some (.slice A' L.length c') := cell_of_row w5 g 0 _ 104 (0, 0) HD5.out; clear hO5 hB5))
      go_end0
      have eM : j = al.length / 16 := by have := Hk.out; omega
      have eR : X.rest 16 al = L := by rw [X.rest, ← eM]; exact HeL.out.symm
      refine ⟨rfl, .slice A5 L.length c5, ?_, ?_, ?_⟩
      · rw [← eM]; exact blk_set HD5.out 0 _
      · rw [eR]
        have hne5 : some g ≠ (Value.slice A5 L.length c5).ownBlock := own_ne HO5.out HD5.out (by decide)
        have := own_setCell (p := ⟨g, 0, none⟩) HO5.out hne5 (.slice A5 L.length c5)
        exact own_lower this HF.out.size
      · exact (HF.out.then' (Fr.of_below HB5.out (fun _ => True)) (fun _ _ _ => trivial)).then' (Fr.set ⟨g, 0, none⟩ _) (fun i _ h => h.1)
    | succ k1 =>
      have hge : 16 ≤ L.length := by have := HeLl.out; have := Nat.div_mul_le_self al.length 16; omega
      have hge' : (16 : Int) ≤ (L.length : Int) := by omega
      have hc16 : (16 : Int) ≤ (c' : Int) := by omega
      obtain ⟨ad, rfl, _⟩ := HW.out.1.2.2 (by omega)
      have hadg : ad.block ≠ g := apart_D HW.out.1 (by omega) HD.out
      have HT := Aside0.mk (Rd.take (rd_of_reads HW.out.1) 16)
      have HTl := Aside0.mk (show (L.take 16).length = 16 by simp; omega)
      have HTb := Aside0.mk (HLb.out.take 16)
      have HstripeL := Aside0.mk (stripe_take (X.run32 j v al) L hge)
      have HdropL := Aside0.mk (show al.drop (16 * (j + 1)) = L.drop 16 by rw [HeL.out, List.drop_drop, Nat.mul_succ])
      obtain ⟨i05, hi05, _, hsz5, _⟩ := info_parts info5
      obtain ⟨A1, hcut, hA1⟩ := print_cut (P := Try.prog) 22 5 .i64 Try.underlying22 hi05 hsz5 (some ad) L.length c' 16 hge
      have HA1 := Aside0.mk hA1
      have hcut' : ∀ W : World, (Instr.slice 22 (.slice (some ad) L.length c') (some (.int .i64 16)) none none).run Try.prog W = .ok (.slice A1 (L.length - 16) (c' - 16)) W := hcut
      clear hA1 hi05 hsz5 hcut
      go_wp2_with (first | (go_at_call 83; refine (takes1_calls ad c' (L.take 16) bx g (.slice (some ad) L.length c') ((N + b.length : Nat) : Int) s (X.run32 j v al) _ HT.out HTl.out (by omega) HTb.out hbx HD.out hneg hadg).mono ?_; rintro e w4 ⟨rfl, hD4, hG4⟩; have HD4 := Aside0.mk hD4; have F4' := Aside0.mk ((Fr.of_grown hG4).mono (ok' := fun i => i ≠ g) (fun i _ h e => h (by injection e))); have x4 : w4.cell? ⟨g, 0, none⟩ = some (.slice (some ad) L.length c') := (IsD.at hD4 0 _ rfl).1; have f4 : w4.frozen? ⟨g, 0, none⟩ = false := (IsD.at hD4 0 (.slice (some ad) L.length c') rfl).2; clear hD4 hG4))
      go_roundg k1
      case measure => omega
      case rel =>
        have F4 := F4'.out
        have e1 : al.length - 16 * (j + 1) = L.length - 16 := by have := HeLl.out; omega
        refine ⟨j + 1, A1, c' - 16, by omega, ⟨?_⟩, ⟨?_⟩, ⟨?_⟩⟩
        · rw [run_snoc, ← HeL.out, ← HstripeL.out, e1]
          exact blk_set HD4.out 0 _
        · rw [e1, HdropL.out]
          exact ⟨reads_fr (F4.then (Fr.set ⟨g, 0, none⟩ _)) (HA1.out _ _ _ hLc HW.out.1) (fun ad' e h0 => apart_D (e ▸ HA1.out _ _ _ hLc HW.out.1) h0 HD.out), by omega⟩
        · exact (HF.out.then' F4 (fun i _ h => h.1)).then' (Fr.set ⟨g, 0, none⟩ _) (fun i _ h => h.1)
end Go.Proofs.Ytnkcbkfccbfjpaa.XxhW
