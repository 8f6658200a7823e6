/- XxhDigests: the walk. Conditions: a script of at most 2^20 steps of at most 2^20 bytes each. -/
import Derived.Test.YtnkcbkfccbfjpaaUf
namespace Go.Proofs.Ytnkcbkfccbfjpaa.XxhW
open Go.RowKit Go.Proofs.YtnkcbkfccbfjpaaW.PrintWords Go.Proofs.YtnkcbkfccbfjpaaW.PrintLast Go.Proofs.YtnkcbkfccbfjpaaW.PrintMore
set_option linter.unusedVariables false
set_option linter.unusedSimpArgs false
/-- A script that is read. -/
structure OpZ where
  k : Int
  o : Int
  b : List Int
def opZ : OpZ := ⟨0, 0, []⟩
structure OpAt (w : World) (ad : Addr) (s : OpZ) : Prop where
  x0 : w.cell? ad = some (.int .i64 s.k)
  x1 : w.cell? (ad.add 1) = some (.int .i64 s.o)
  bs : ∃ A c, w.cell? (ad.add 2) = some (.slice A s.b.length c) ∧ s.b.length ≤ c ∧ ReadsInt w .u8 A s.b.length s.b
  by_ : Bytes s.b
  bl : s.b.length ≤ 1048576
def Script (w : World) (A : Option Addr) (l : List OpZ) : Prop := ∀ i, i < l.length → ∃ ad, A = some ad ∧ OpAt w (ad.add (i * 3)) (l.getD i opZ)
theorem OpAt.below {w w' : World} {ad : Addr} {s : OpZ} (h : OpAt w ad s) (b : Below w.heap.size w w') : OpAt w' ad s := by
  obtain ⟨A, c, h2, h3, h4⟩ := h.bs
  exact ⟨pw_cell_below b h.x0, pw_cell_below b h.x1, ⟨A, c, pw_cell_below b h2, h3, h4.below b⟩, h.by_, h.bl⟩
/-- Which digest. -/
def onOf (x : Int) : Int := if Int.tmod x 4 < 0 then Int.tmod x 4 + 4 else Int.tmod x 4
theorem onOf_low (x : Int) : -4 < Int.tmod x 4 := by
  rcases Int.lt_or_le x 0 with h | h
  · have e : Int.tmod x 4 = -((-x) % 4) := by
      rw [← Int.tmod_eq_emod_of_nonneg (show 0 ≤ -x by omega), Int.neg_tmod, Int.neg_neg]
    omega
  · rw [Int.tmod_eq_emod_of_nonneg h]
    omega
theorem onOf_in (x : Int) : ∃ o : Nat, onOf x = (o : Int) ∧ o < 4 := by
  unfold onOf
  have h1 : -4 < Int.tmod x 4 ∧ Int.tmod x 4 < 4 := by
    rcases Int.lt_or_le x 0 with h | h
    · have e : Int.tmod x 4 = -((-x) % 4) := by
        rw [← Int.tmod_eq_emod_of_nonneg (show 0 ≤ -x by omega), Int.neg_tmod, Int.neg_neg]
      omega
    · rw [Int.tmod_eq_emod_of_nonneg h]
      omega
  split
  · exact ⟨(Int.tmod x 4 + 4).toNat, by omega, by omega⟩
  · exact ⟨(Int.tmod x 4).toNat, by omega, by omega⟩
set_option maxHeartbeats 16000000 in
set_option maxRecDepth 100000 in
theorem digests_walk (seed wide : Int) (A : Option Addr) (c : Nat) (l : List OpZ) (w : World) (hs : W64 seed) (hw : W64 wide) (hp : Script w A l) (hl : l.length ≤ 1048576) (hc : l.length ≤ c) :
    Calls Try.prog 9 #[.int .u64 seed, .int .u64 wide, .slice A l.length c] w fun e w' => e = .returned (.bool true) ∧ Below w.heap.size w w' := by
  have HP := Aside0.mk hp
  have HW1 := Aside0.mk hs
  have HW2 := Aside0.mk hw
  have HT : Sep w w [Res.row w.heap.size 5 1 ([] : List Int).length (.slice none 0 0) (nums .u8 []), Res.row w.heap.size 5 1 ([] : List Int).length (.slice none 0 0) (nums .u8 []), Res.row w.heap.size 5 1 ([] : List Int).length (.slice none 0 0) (nums .u8 []), Res.row w.heap.size 5 1 ([] : List Int).length (.slice none 0 0) (nums .u8 [])] := by
    have f : ∀ i, (Res.row w.heap.size 5 1 ([] : List Int).length (.slice none 0 0) (nums .u8 [])).foot i → w.heap.size ≤ i := fun i hi => by cases (show some i = none from hi)
    exact ((((Sep.nil w).push (Below.refl _ _) _ (own_nil _ _ _ _) f).push (Below.refl _ _) _ (own_nil _ _ _ _) f).push (Below.refl _ _) _ (own_nil _ _ _ _) f).push (Below.refl _ _) _ (own_nil _ _ _ _) f
  have HS0 := Aside0.mk HT
  clear HT hp hs hw
  go_enter Try.func9, Try.ntmps9
  go_upto_region 2 with (first | (go_at_call 26; refine (New32_calls (seed % 4294967296) w (w32_mod seed)).mono ?_; rintro e w1 ⟨rfl, hd, hb⟩; have HB1 := Aside0.mk hb; have HS1 := Aside0.mk (HS0.out.push hb (res32 w.heap.size w.heap.size (seed % 4294967296) [] (.slice none 0 0)) (d_res32 hd) (fun i hi => Nat.le_of_eq (foot_new32 hi).symm)); clear hd hb) | (go_at_call 26; refine (New32_calls (wide % 4294967296) w1 (w32_mod wide)).mono ?_; rintro e w2 ⟨rfl, hd, hb⟩; have HS2 := Aside0.mk (HS1.out.push hb (res32 w.heap.size w1.heap.size (wide % 4294967296) [] (.slice none 0 0)) (d_res32 (hd.lower HS1.out.B.size)) (fun i hi => Nat.le_of_eq (foot_new32 hi).symm)); clear hd hb) | (go_at_call 27; refine (New64_calls seed w2 HW1.out).mono ?_; rintro e w3 ⟨rfl, hd, hb⟩; have HS3 := Aside0.mk (HS2.out.push hb (res64 w.heap.size w2.heap.size seed [] (.slice none 0 0)) (d_res64 (hd.lower HS2.out.B.size)) (fun i hi => Nat.le_of_eq (foot_new64 hi).symm)); clear hd hb) | (go_at_call 27; refine (New64_calls wide w3 HW2.out).mono ?_; rintro e w4 ⟨rfl, hd, hb⟩; have HS4 := Aside0.mk (HS3.out.push hb (res64 w.heap.size w3.heap.size wide [] (.slice none 0 0)) (d_res64 (hd.lower HS3.out.B.size)) (fun i hi => Nat.le_of_eq (foot_new64 hi).symm)); clear hd hb))
  clear HS0 HS1 HS2 HS3 HB1
  change Code.wp _ _ _ _ (w4.alloc (.cells #[.pointer (some ⟨w.heap.size, 0, none⟩), .pointer (some ⟨w1.heap.size, 0, none⟩), .pointer (some ⟨w2.heap.size, 0, none⟩), .pointer (some ⟨w3.heap.size, 0, none⟩), .slice none 0 0, .slice none 0 0, .slice none 0 0, .slice none 0 0, .int .u64 seed, .int .u64 wide] 57))
  have HS5 := Aside0.mk (sep_perm (HS4.out.push (below_alloc (Below.refl _ _) (.cells #[.pointer (some ⟨w.heap.size, 0, none⟩), .pointer (some ⟨w1.heap.size, 0, none⟩), .pointer (some ⟨w2.heap.size, 0, none⟩), .pointer (some ⟨w3.heap.size, 0, none⟩), .slice none 0 0, .slice none 0 0, .slice none 0 0, .slice none 0 0, .int .u64 seed, .int .u64 wide] 57)) (Res.blk w4.heap.size #[.pointer (some ⟨w.heap.size, 0, none⟩), .pointer (some ⟨w1.heap.size, 0, none⟩), .pointer (some ⟨w2.heap.size, 0, none⟩), .pointer (some ⟨w3.heap.size, 0, none⟩), .slice none 0 0, .slice none 0 0, .slice none 0 0, .slice none 0 0, .int .u64 seed, .int .u64 wide] 57) (heap_alloc_new w4 _) (fun i hi => Nat.le_of_eq (show i = w4.heap.size from hi).symm)) (perm_first _ _ _ _ _ _))
  have hblk := heap_alloc_new w4 (.cells #[.pointer (some ⟨w.heap.size, 0, none⟩), .pointer (some ⟨w1.heap.size, 0, none⟩), .pointer (some ⟨w2.heap.size, 0, none⟩), .pointer (some ⟨w3.heap.size, 0, none⟩), .slice none 0 0, .slice none 0 0, .slice none 0 0, .slice none 0 0, .int .u64 seed, .int .u64 wide] 57)
  obtain ⟨gs, hgs⟩ : ∃ gs, gs = w4.heap.size := ⟨_, rfl⟩
  obtain ⟨w5, hw5⟩ : ∃ W, W = w4.alloc (.cells #[.pointer (some ⟨w.heap.size, 0, none⟩), .pointer (some ⟨w1.heap.size, 0, none⟩), .pointer (some ⟨w2.heap.size, 0, none⟩), .pointer (some ⟨w3.heap.size, 0, none⟩), .slice none 0 0, .slice none 0 0, .slice none 0 0, .slice none 0 0, .int .u64 seed, .int .u64 wide] 57) := ⟨_, rfl⟩
  rw [← hw5] at HS5 hblk ⊢
  rw [← hgs] at HS5 hblk ⊢
  have p0 : w5.cell? ⟨gs, 0, none⟩ = some (.pointer (some ⟨w.heap.size, 0, none⟩)) := cell_of_row w5 gs 0 _ 57 (0, 0) hblk
  have p1 : w5.cell? ⟨gs, 1, none⟩ = some (.pointer (some ⟨w1.heap.size, 0, none⟩)) := cell_of_row w5 gs 1 _ 57 (0, 0) hblk
  have p2 : w5.cell? ⟨gs, 2, none⟩ = some (.pointer (some ⟨w2.heap.size, 0, none⟩)) := cell_of_row w5 gs 2 _ 57 (0, 0) hblk
  have p3 : w5.cell? ⟨gs, 3, none⟩ = some (.pointer (some ⟨w3.heap.size, 0, none⟩)) := cell_of_row w5 gs 3 _ 57 (0, 0) hblk
  have HG := Aside0.mk (show GoodS w w5 gs seed wide 0 from ⟨[], [], [], [], ⟨⟨w.heap.size, w1.heap.size, w2.heap.size, w3.heap.size, .slice none 0 0, .slice none 0 0, .slice none 0 0, .slice none 0 0, .slice none 0 0, .slice none 0 0, .slice none 0 0, .slice none 0 0⟩, HS5.out⟩, ⟨bytes_nil, bytes_nil, bytes_nil, bytes_nil⟩, Nat.le_refl _, Nat.le_refl _, Nat.le_refl _, Nat.le_refl _⟩)
  clear hw5 hgs hblk HS4 HS5
  go_upto_region 4 with fail
  clear p0 p1 p2 p3
  go_wp2_with fail
  go_loopg [8] l.length (fun kq v8 wc => ∃ i : Nat, kq + i = l.length ∧ v8 = .int .i64 i ∧ Aside0 (GoodS w wc gs seed wide (i * 1048576)))
  case atStart => exact ⟨0, by omega, rfl, by rw [Nat.zero_mul]; exact HG⟩
  case round =>
    clear HG
    obtain ⟨i, hk, rfl, HG⟩ := hrel
    cases gk with
    | zero =>
      have hge : ¬ ((i : Int) < (l.length : Int)) := by omega
      have hn : i * 1048576 ≤ 1099511627776 := by omega
      have HT0 : Aside0 (∀ (W : World), Below wr.heap.size wr W → Calls Try.prog 35 #[.pointer (some ⟨gs, 0, none⟩), .int .i64 0] W fun e w' => e = .returned (.bool true) ∧ Below W.heap.size W w') := ⟨fun W h => tells_any 0 (by decide) w W gs seed wide (i * 1048576) hn HW1.out HW2.out (HG.out.keep h)⟩
      have HT1 : Aside0 (∀ (W : World), Below wr.heap.size wr W → Calls Try.prog 35 #[.pointer (some ⟨gs, 0, none⟩), .int .i64 1] W fun e w' => e = .returned (.bool true) ∧ Below W.heap.size W w') := ⟨fun W h => tells_any 1 (by decide) w W gs seed wide (i * 1048576) hn HW1.out HW2.out (HG.out.keep h)⟩
      have HT2 : Aside0 (∀ (W : World), Below wr.heap.size wr W → Calls Try.prog 35 #[.pointer (some ⟨gs, 0, none⟩), .int .i64 2] W fun e w' => e = .returned (.bool true) ∧ Below W.heap.size W w') := ⟨fun W h => tells_any 2 (by decide) w W gs seed wide (i * 1048576) hn HW1.out HW2.out (HG.out.keep h)⟩
      have HT3 : Aside0 (∀ (W : World), Below wr.heap.size wr W → Calls Try.prog 35 #[.pointer (some ⟨gs, 0, none⟩), .int .i64 3] W fun e w' => e = .returned (.bool true) ∧ Below W.heap.size W w') := ⟨fun W h => tells_any 3 (by decide) w W gs seed wide (i * 1048576) hn HW1.out HW2.out (HG.out.keep h)⟩
      have HBe := Aside0.mk HG.out.B
      clear HG hn hk
      go_wp2_with (first | (go_at_call 35; (with_reducible refine (HT0.out wr (Below.refl _ _)).mono ?_); rintro e w6 ⟨rfl, hb6⟩; have HB6 := Aside0.mk (hb6); clear hb6 HT0) | (go_at_call 35; (with_reducible refine (HT1.out w6 HB6.out).mono ?_); rintro e w7 ⟨rfl, hb7⟩; have HB7 := Aside0.mk (below_step HB6.out hb7); clear hb7 HT1) | (go_at_call 35; (with_reducible refine (HT2.out w7 HB7.out).mono ?_); rintro e w8 ⟨rfl, hb8⟩; have HB8 := Aside0.mk (below_step HB7.out hb8); clear hb8 HT2) | (go_at_call 35; (with_reducible refine (HT3.out w8 HB8.out).mono ?_); rintro e w9 ⟨rfl, hb9⟩; have HB9 := Aside0.mk (below_step HB8.out hb9); clear hb9 HT3))
      go_ret
      exact ⟨rfl, below_step HBe.out HB9.out⟩
    | succ k1 =>
      have hilt : (i : Int) < (l.length : Int) := by omega
      have hi0 : (0 : Int) ≤ (i : Int) := by omega
      obtain ⟨ad, had, hop⟩ := HP.out i (by omega)
      subst had
      obtain ⟨s, hs⟩ : ∃ s, s = l.getD i opZ := ⟨_, rfl⟩
      rw [← hs] at hop
      clear hs
      obtain ⟨kk, oo, bb⟩ := s
      have hopw := hop.below HG.out.B
      have q0 : wr.cell? (ad.add (i * 3)) = some (.int .i64 kk) := hopw.x0
      have q1 : wr.cell? ⟨(ad.add (i * 3)).block, (ad.add (i * 3)).off + 1, none⟩ = some (.int .i64 oo) := hopw.x1
      obtain ⟨Ab, cb, q2a, hcb, hrb⟩ := hop.bs
      have q2 : wr.cell? ⟨(ad.add (i * 3)).block, (ad.add (i * 3)).off + 2, none⟩ = some (.slice Ab bb.length cb) := pw_cell_below HG.out.B q2a
      clear q2a
      have hbb : Bytes bb := hop.by_
      have hbl : bb.length ≤ 1048576 := hop.bl
      have HOB := Aside0.mk (And.intro hcb (And.intro hrb (And.intro hbb hbl)))
      clear hop hopw hcb hrb hbb hbl
      obtain ⟨on, hon, ho4⟩ := onOf_in oo
      go_upto_if 64 with fail
      go_cut [9] (fun v9 wc => v9 = .int .i64 (on : Int) ∧ wc = wr)
      case first =>
        by_cases hneg : Int.tmod oo 4 < 0
        · have hnb : decide (Int.tmod oo 4 < 0) = true := decide_eq_true hneg
          rw [hnb]
          go_wp2_with fail
          go_meet
          case rel =>
            have e : onOf oo = Int.tmod oo 4 + 4 := if_pos hneg
            have hb4 : -4 < Int.tmod oo 4 := onOf_low oo
            refine ⟨?_, rfl⟩
            rw [← hon, e, IntWalk.wrap64_in _ (by omega)]
        · have hnb : decide (Int.tmod oo 4 < 0) = false := decide_eq_false hneg
          rw [hnb]
          go_wp2_with fail
          go_meet
          case rel =>
            have e : onOf oo = Int.tmod oo 4 := if_neg (by omega)
            refine ⟨?_, rfl⟩
            rw [← hon, e]
      case rest =>
        obtain ⟨rfl, hwe⟩ := hcut
        rw [hwe]
        clear hwe q1 hon
        have hn : i * 1048576 ≤ 1099511627776 := by omega
        have HMb := Aside0.mk (show i * 1048576 + bb.length ≤ (i + 1) * 1048576 by rw [Nat.add_one_mul]; exact Nat.add_le_add_left HOB.out.2.2.2 _)
        have HM := Aside0.mk (show i * 1048576 ≤ (i + 1) * 1048576 by omega)
        have hwi : wrap64 ((i : Int) + 1) = (i : Int) + 1 := IntWalk.wrap64_in _ (by omega)
        by_cases k0 : kk = 0
        · subst k0
          have HC := Aside0.mk (writes_any on ho4 w wr gs seed wide (i * 1048576) hn Ab cb bb HOB.out.2.1 HOB.out.1 HOB.out.2.2.1 (Nat.le_trans HOB.out.2.2.2 (by decide)) HG.out)
          clear HG
          go_wp2_with (go_at_call 34; refine HC.out.mono ?_; rintro e w6 ⟨rfl, hg⟩; have HG6 := Aside0.mk (hg.more HMb.out); clear hg)
          go_roundg k1
          case measure => clear hwi; omega
          case rel => exact ⟨i + 1, by clear hwi; omega, by simp [hwi], HG6⟩
        by_cases k1' : kk = 1
        · subst k1'
          have HC := Aside0.mk (tells_any on ho4 w wr gs seed wide (i * 1048576) hn HW1.out HW2.out HG.out)
          go_wp2_with (go_at_call 35; refine HC.out.mono ?_; rintro e w6 ⟨rfl, hb⟩; have HG6 := Aside0.mk ((HG.out.keep hb).more HM.out); clear hb)
          go_roundg k1
          case measure => clear hwi; omega
          case rel => exact ⟨i + 1, by clear hwi; omega, by simp [hwi], HG6⟩
        by_cases k3 : kk = 3
        · subst k3
          have HC := Aside0.mk (clones_any on ho4 w wr gs seed wide (i * 1048576) hn HW1.out HW2.out HG.out)
          clear HG
          go_wp2_with (go_at_call 37; refine HC.out.mono ?_; rintro e w6 ⟨rfl, hg⟩; have HG6 := Aside0.mk (hg.more HM.out); clear hg)
          go_roundg k1
          case measure => clear hwi; omega
          case rel => exact ⟨i + 1, by clear hwi; omega, by simp [hwi], HG6⟩
        by_cases k2 : kk = 2
        · subst k2
          obtain ⟨la, lb, lc, ld, ⟨⟨ga, gb, gc, gd, ra, rb, rc, rd, t0, t1, t2, t3⟩, hS⟩, ⟨b1, b2, b3, b4⟩, n1, n2, n3, n4⟩ := HG.out
          clear HG
          have HN := HM
          have HBs := Aside0.mk (And.intro b1 (And.intro b2 (And.intro b3 b4)))
          have HNs := Aside0.mk (And.intro n1 (And.intro n2 (And.intro n3 n4)))
          have HS := Aside0.mk hS
          clear hS b1 b2 b3 b4 n1 n2 n3 n4
          rcases on with _ | _ | _ | _ | on
          · have HC := Aside0.mk (reset0 w wr gs seed wide ga gb gc gd ra rb rc rd t0 t1 t2 t3 la lb lc ld HS.out HW1.out)
            go_wp2_with (go_at_call 36; refine HC.out.mono ?_; rintro e w6 ⟨rfl, hS6⟩; have HS6 := Aside0.mk hS6; have hb6 : w6.heap[gs]? = some (.cells (stC seed wide ⟨ga, gb, gc, gd, ra, rb, rc, rd, t0, t1, t2, t3⟩) 57 (0, 0)) := hS6.h _ List.mem_cons_self; have c0 : w6.cell? ⟨gs, 0, none⟩ = some (.pointer (some ⟨ga, 0, none⟩)) := cell_of_row w6 gs 0 _ 57 (0, 0) hb6; have z0 := blk_frozen hb6 0; have c1 : w6.cell? ⟨gs, 1, none⟩ = some (.pointer (some ⟨gb, 0, none⟩)) := cell_of_row w6 gs 1 _ 57 (0, 0) hb6; have z1 := blk_frozen hb6 1; have c2 : w6.cell? ⟨gs, 2, none⟩ = some (.pointer (some ⟨gc, 0, none⟩)) := cell_of_row w6 gs 2 _ 57 (0, 0) hb6; have z2 := blk_frozen hb6 2; have c3 : w6.cell? ⟨gs, 3, none⟩ = some (.pointer (some ⟨gd, 0, none⟩)) := cell_of_row w6 gs 3 _ 57 (0, 0) hb6; have z3 := blk_frozen hb6 3; have c4 : w6.cell? ⟨gs, 4, none⟩ = some (t0) := cell_of_row w6 gs 4 _ 57 (0, 0) hb6; have z4 := blk_frozen hb6 4; clear hS6 hb6)
            have HS7 := Aside0.mk ((((((HS6.out.put 0 gs (stC seed wide ⟨ga, gb, gc, gd, ra, rb, rc, rd, t0, t1, t2, t3⟩) 57 rfl 0 (.pointer (some ⟨ga, 0, none⟩)) (show 0 < 10 by decide)).put 0 gs _ 57 rfl 1 (.pointer (some ⟨gb, 0, none⟩)) (show 1 < 10 by decide)).put 0 gs _ 57 rfl 2 (.pointer (some ⟨gc, 0, none⟩)) (show 2 < 10 by decide)).put 0 gs _ 57 rfl 3 (.pointer (some ⟨gd, 0, none⟩)) (show 3 < 10 by decide)).put 0 gs _ 57 rfl 4 (.slice none 0 0) (show 4 < 10 by decide)).alike 5 _ (Res.row w.heap.size 5 1 ([] : List Int).length (.slice none 0 0) (nums .u8 [])) rfl (fun _ => own_nil _ _ _ _) (fun i hi => by cases (show some i = none from hi)))
            go_roundg k1
            case measure => clear hwi; omega
            case rel => exact ⟨i + 1, by clear hwi; omega, by simp [hwi], ⟨[], lb, lc, ld, ⟨⟨ga, gb, gc, gd, .slice none 0 0, rb, rc, rd, .slice none 0 0, t1, t2, t3⟩, HS7.out⟩, ⟨bytes_nil, HBs.out.2.1, HBs.out.2.2.1, HBs.out.2.2.2⟩, Nat.zero_le _, Nat.le_trans HNs.out.2.1 HN.out, Nat.le_trans HNs.out.2.2.1 HN.out, Nat.le_trans HNs.out.2.2.2 HN.out⟩⟩
          · have HC := Aside0.mk (reset1 w wr gs seed wide ga gb gc gd ra rb rc rd t0 t1 t2 t3 la lb lc ld HS.out HW2.out)
            go_wp2_with (go_at_call 36; refine HC.out.mono ?_; rintro e w6 ⟨rfl, hS6⟩; have HS6 := Aside0.mk hS6; have hb6 : w6.heap[gs]? = some (.cells (stC seed wide ⟨ga, gb, gc, gd, ra, rb, rc, rd, t0, t1, t2, t3⟩) 57 (0, 0)) := hS6.h _ List.mem_cons_self; have c0 : w6.cell? ⟨gs, 0, none⟩ = some (.pointer (some ⟨ga, 0, none⟩)) := cell_of_row w6 gs 0 _ 57 (0, 0) hb6; have z0 := blk_frozen hb6 0; have c1 : w6.cell? ⟨gs, 1, none⟩ = some (.pointer (some ⟨gb, 0, none⟩)) := cell_of_row w6 gs 1 _ 57 (0, 0) hb6; have z1 := blk_frozen hb6 1; have c2 : w6.cell? ⟨gs, 2, none⟩ = some (.pointer (some ⟨gc, 0, none⟩)) := cell_of_row w6 gs 2 _ 57 (0, 0) hb6; have z2 := blk_frozen hb6 2; have c3 : w6.cell? ⟨gs, 3, none⟩ = some (.pointer (some ⟨gd, 0, none⟩)) := cell_of_row w6 gs 3 _ 57 (0, 0) hb6; have z3 := blk_frozen hb6 3; have c5 : w6.cell? ⟨gs, 5, none⟩ = some (t1) := cell_of_row w6 gs 5 _ 57 (0, 0) hb6; have z5 := blk_frozen hb6 5; clear hS6 hb6)
            have HS7 := Aside0.mk ((((((HS6.out.put 0 gs (stC seed wide ⟨ga, gb, gc, gd, ra, rb, rc, rd, t0, t1, t2, t3⟩) 57 rfl 0 (.pointer (some ⟨ga, 0, none⟩)) (show 0 < 10 by decide)).put 0 gs _ 57 rfl 1 (.pointer (some ⟨gb, 0, none⟩)) (show 1 < 10 by decide)).put 0 gs _ 57 rfl 2 (.pointer (some ⟨gc, 0, none⟩)) (show 2 < 10 by decide)).put 0 gs _ 57 rfl 3 (.pointer (some ⟨gd, 0, none⟩)) (show 3 < 10 by decide)).put 0 gs _ 57 rfl 5 (.slice none 0 0) (show 5 < 10 by decide)).alike 6 _ (Res.row w.heap.size 5 1 ([] : List Int).length (.slice none 0 0) (nums .u8 [])) rfl (fun _ => own_nil _ _ _ _) (fun i hi => by cases (show some i = none from hi)))
            go_roundg k1
            case measure => clear hwi; omega
            case rel => exact ⟨i + 1, by clear hwi; omega, by simp [hwi], ⟨la, [], lc, ld, ⟨⟨ga, gb, gc, gd, ra, .slice none 0 0, rc, rd, t0, .slice none 0 0, t2, t3⟩, HS7.out⟩, ⟨HBs.out.1, bytes_nil, HBs.out.2.2.1, HBs.out.2.2.2⟩, Nat.le_trans HNs.out.1 HN.out, Nat.zero_le _, Nat.le_trans HNs.out.2.2.1 HN.out, Nat.le_trans HNs.out.2.2.2 HN.out⟩⟩
          · have HC := Aside0.mk (reset2 w wr gs seed wide ga gb gc gd ra rb rc rd t0 t1 t2 t3 la lb lc ld HS.out HW1.out)
            go_wp2_with (go_at_call 36; refine HC.out.mono ?_; rintro e w6 ⟨rfl, hS6⟩; have HS6 := Aside0.mk hS6; have hb6 : w6.heap[gs]? = some (.cells (stC seed wide ⟨ga, gb, gc, gd, ra, rb, rc, rd, t0, t1, t2, t3⟩) 57 (0, 0)) := hS6.h _ List.mem_cons_self; have c0 : w6.cell? ⟨gs, 0, none⟩ = some (.pointer (some ⟨ga, 0, none⟩)) := cell_of_row w6 gs 0 _ 57 (0, 0) hb6; have z0 := blk_frozen hb6 0; have c1 : w6.cell? ⟨gs, 1, none⟩ = some (.pointer (some ⟨gb, 0, none⟩)) := cell_of_row w6 gs 1 _ 57 (0, 0) hb6; have z1 := blk_frozen hb6 1; have c2 : w6.cell? ⟨gs, 2, none⟩ = some (.pointer (some ⟨gc, 0, none⟩)) := cell_of_row w6 gs 2 _ 57 (0, 0) hb6; have z2 := blk_frozen hb6 2; have c3 : w6.cell? ⟨gs, 3, none⟩ = some (.pointer (some ⟨gd, 0, none⟩)) := cell_of_row w6 gs 3 _ 57 (0, 0) hb6; have z3 := blk_frozen hb6 3; have c6 : w6.cell? ⟨gs, 6, none⟩ = some (t2) := cell_of_row w6 gs 6 _ 57 (0, 0) hb6; have z6 := blk_frozen hb6 6; clear hS6 hb6)
            have HS7 := Aside0.mk ((((((HS6.out.put 0 gs (stC seed wide ⟨ga, gb, gc, gd, ra, rb, rc, rd, t0, t1, t2, t3⟩) 57 rfl 0 (.pointer (some ⟨ga, 0, none⟩)) (show 0 < 10 by decide)).put 0 gs _ 57 rfl 1 (.pointer (some ⟨gb, 0, none⟩)) (show 1 < 10 by decide)).put 0 gs _ 57 rfl 2 (.pointer (some ⟨gc, 0, none⟩)) (show 2 < 10 by decide)).put 0 gs _ 57 rfl 3 (.pointer (some ⟨gd, 0, none⟩)) (show 3 < 10 by decide)).put 0 gs _ 57 rfl 6 (.slice none 0 0) (show 6 < 10 by decide)).alike 7 _ (Res.row w.heap.size 5 1 ([] : List Int).length (.slice none 0 0) (nums .u8 [])) rfl (fun _ => own_nil _ _ _ _) (fun i hi => by cases (show some i = none from hi)))
            go_roundg k1
            case measure => clear hwi; omega
            case rel => exact ⟨i + 1, by clear hwi; omega, by simp [hwi], ⟨la, lb, [], ld, ⟨⟨ga, gb, gc, gd, ra, rb, .slice none 0 0, rd, t0, t1, .slice none 0 0, t3⟩, HS7.out⟩, ⟨HBs.out.1, HBs.out.2.1, bytes_nil, HBs.out.2.2.2⟩, Nat.le_trans HNs.out.1 HN.out, Nat.le_trans HNs.out.2.1 HN.out, Nat.zero_le _, Nat.le_trans HNs.out.2.2.2 HN.out⟩⟩
          · have HC := Aside0.mk (reset3 w wr gs seed wide ga gb gc gd ra rb rc rd t0 t1 t2 t3 la lb lc ld HS.out HW2.out)
            go_wp2_with (go_at_call 36; refine HC.out.mono ?_; rintro e w6 ⟨rfl, hS6⟩; have HS6 := Aside0.mk hS6; have hb6 : w6.heap[gs]? = some (.cells (stC seed wide ⟨ga, gb, gc, gd, ra, rb, rc, rd, t0, t1, t2, t3⟩) 57 (0, 0)) := hS6.h _ List.mem_cons_self; have c0 : w6.cell? ⟨gs, 0, none⟩ = some (.pointer (some ⟨ga, 0, none⟩)) := cell_of_row w6 gs 0 _ 57 (0, 0) hb6; have z0 := blk_frozen hb6 0; have c1 : w6.cell? ⟨gs, 1, none⟩ = some (.pointer (some ⟨gb, 0, none⟩)) := cell_of_row w6 gs 1 _ 57 (0, 0) hb6; have z1 := blk_frozen hb6 1; have c2 : w6.cell? ⟨gs, 2, none⟩ = some (.pointer (some ⟨gc, 0, none⟩)) := cell_of_row w6 gs 2 _ 57 (0, 0) hb6; have z2 := blk_frozen hb6 2; have c3 : w6.cell? ⟨gs, 3, none⟩ = some (.pointer (some ⟨gd, 0, none⟩)) := cell_of_row w6 gs 3 _ 57 (0, 0) hb6; have z3 := blk_frozen hb6 3; have c7 : w6.cell? ⟨gs, 7, none⟩ = some (t3) := cell_of_row w6 gs 7 _ 57 (0, 0) hb6; have z7 := blk_frozen hb6 7; clear hS6 hb6)
            have HS7 := Aside0.mk ((((((HS6.out.put 0 gs (stC seed wide ⟨ga, gb, gc, gd, ra, rb, rc, rd, t0, t1, t2, t3⟩) 57 rfl 0 (.pointer (some ⟨ga, 0, none⟩)) (show 0 < 10 by decide)).put 0 gs _ 57 rfl 1 (.pointer (some ⟨gb, 0, none⟩)) (show 1 < 10 by decide)).put 0 gs _ 57 rfl 2 (.pointer (some ⟨gc, 0, none⟩)) (show 2 < 10 by decide)).put 0 gs _ 57 rfl 3 (.pointer (some ⟨gd, 0, none⟩)) (show 3 < 10 by decide)).put 0 gs _ 57 rfl 7 (.slice none 0 0) (show 7 < 10 by decide)).alike 8 _ (Res.row w.heap.size 5 1 ([] : List Int).length (.slice none 0 0) (nums .u8 [])) rfl (fun _ => own_nil _ _ _ _) (fun i hi => by cases (show some i = none from hi)))
            go_roundg k1
            case measure => clear hwi; omega
            case rel => exact ⟨i + 1, by clear hwi; omega, by simp [hwi], ⟨la, lb, lc, [], ⟨⟨ga, gb, gc, gd, ra, rb, rc, .slice none 0 0, t0, t1, t2, .slice none 0 0⟩, HS7.out⟩, ⟨HBs.out.1, HBs.out.2.1, HBs.out.2.2.1, bytes_nil⟩, Nat.le_trans HNs.out.1 HN.out, Nat.le_trans HNs.out.2.1 HN.out, Nat.le_trans HNs.out.2.2.1 HN.out, Nat.zero_le _⟩⟩
          · omega
        have d0 : (kk == 0) = false := beq_eq_false_iff_ne.mpr k0
        have d1 : (kk == 1) = false := beq_eq_false_iff_ne.mpr k1'
        have d2 : (kk == 2) = false := beq_eq_false_iff_ne.mpr k2
        have d3 : (kk == 3) = false := beq_eq_false_iff_ne.mpr k3
        have HG6 := Aside0.mk (HG.out.more HM.out)
        clear HG
        go_wp2_with fail
        go_roundg k1
        case measure => clear hwi; omega
        case rel => exact ⟨i + 1, by clear hwi; omega, by simp [hwi], HG6⟩
end Go.Proofs.Ytnkcbkfccbfjpaa.XxhW
