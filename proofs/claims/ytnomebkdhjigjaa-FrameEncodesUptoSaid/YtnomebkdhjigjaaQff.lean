/- Contracts and plain facts (texts of mine, and printed ones, made one; what nothing leads to is left out). -/
import Derived.Lib.Bytes
import Derived.Test.YtnomebkdhjigjaaRows
import Derived.Deep.Matrix
import Derived.Lib.SmallJoins
import Derived.Test.YtnomebkdhjigjaaQfe
/- Frames, plain: what the document lays is what Encode makes; Skip. -/
namespace Go.Proofs.Ytnomebkdhjigjaa.Frm
open Go.RowKit Go.Proofs.Ytnomebkdhjigjaa.Z Go.Proofs.Ytnomebkdhjigjaa.GFrameEncodes Go.Proofs.YtnomebkdhjigjaaW.PrintWords Go.Proofs.YtnomebkdhjigjaaW.PrintMore
set_option linter.unusedVariables false
set_option linter.unusedSimpArgs false
theorem map_snoc {α : Type} (f : Nat → α) (i : Nat) : (List.range (i + 1)).map f = (List.range i).map f ++ [f i] := by
  rw [List.range_succ, List.map_append]
  rfl
theorem rd_map (f : Nat → List Int) (n i : Nat) (h : i < n) : GFrameEncodes.rd_L1 ((List.range n).map f) (i : Int) = f i := by
  unfold GFrameEncodes.rd_L1
  rw [Int.toNat_natCast, List.getD_eq_getElem?_getD, List.getElem?_map, List.getElem?_range h]
  rfl
theorem pieces_loop (M : Nat) (plain : List Int) (blk : Int) (a1 a2 a3 a4 : Bool) (hM : satchelref04_Size.f blk a1 a2 a3 a4 = some (M : Int)) (hM0 : 65536 ≤ M) (hl : plain.length ≤ 4194304) (k : Nat) :
    ∀ (d i : Nat), i + d = countP M plain →
      satchelref04_Pieces.l0 (k + d + 1) (plain.drop (i * M)) ((List.range i).map (pieceP M plain)) blk a1 a2 a3 a4 = some ((List.range (countP M plain)).map (pieceP M plain))
  | 0, i, h => by
    have h1 : ¬ i * M < plain.length := fun hc => by
      have := (count_lt M plain (by omega) i).2 hc
      omega
    rw [Nat.add_zero, satchelref04_Pieces.l0, if_neg (by rw [List.length_drop]; omega), show i = countP M plain by omega]
  | d + 1, i, h => by
    have hc : i < countP M plain := by omega
    have h64 := count_le M plain hM0 hl i hc
    have hi := (count_lt M plain (by omega) i).1 hc
    have ih := pieces_loop M plain blk a1 a2 a3 a4 hM hM0 hl k d (i + 1) (by omega)
    rw [map_snoc] at ih
    rw [show k + (d + 1) + 1 = (k + d + 1) + 1 by omega, satchelref04_Pieces.l0, if_pos (by rw [List.length_drop]; omega), hM, Option.bind_some]
    have hlen : (plain.drop (i * M)).length = plain.length - i * M := List.length_drop
    have hs : (i + 1) * M = i * M + M := Nat.succ_mul i M
    by_cases c : ((plain.drop (i * M)).length : Int) < (M : Int)
    · rw [if_pos c, if_pos (by omega), if_pos (by omega), if_pos (by rw [List.length_map, List.length_range]; omega), Int.toNat_natCast, List.drop_length, List.take_length]
      have e1 : plain.drop ((i + 1) * M) = [] := List.drop_eq_nil_of_le (by omega)
      have e2 : pieceP M plain i = plain.drop (i * M) := List.take_of_length_le (by omega)
      rw [e1, e2] at ih
      exact ih
    · rw [if_neg c, if_pos (by omega), if_pos (by omega), if_pos (by rw [List.length_map, List.length_range]; omega), Int.toNat_natCast, List.drop_drop, ← hs]
      exact ih
theorem pieces_f (blk : Int) (a1 a2 a3 a4 : Bool) (plain : List Int) (h0 : 4 ≤ blk) (h1 : blk ≤ 7) (hl : plain.length ≤ 4194304) (k : Nat) (hk : 100 ≤ k) :
    satchelref04_Pieces.f k plain blk a1 a2 a3 a4 = some ((List.range (countP (bigOf blk) plain)).map (pieceP (bigOf blk) plain)) := by
  obtain ⟨hM0, hM1⟩ := big_in blk h0 h1
  have hn := count_max (bigOf blk) plain hM0 hl
  have h := pieces_loop (bigOf blk) plain blk a1 a2 a3 a4 (size_f blk a1 a2 a3 a4 h0 h1) hM0 hl (k - countP (bigOf blk) plain - 1) (countP (bigOf blk) plain) 0 (by omega)
  rw [show k - countP (bigOf blk) plain - 1 + countP (bigOf blk) plain + 1 = k by omega, Nat.zero_mul, List.drop_zero] at h
  exact h
theorem low4_k (x : Int) (k : Nat) (hk : 5 ≤ k) (h0 : 0 ≤ x) : satchelref04_low.f k x 4 = some (le4 x) := by
  obtain ⟨q, rfl⟩ : ∃ q, k = q + 5 := ⟨k - 5, by omega⟩
  exact low4_f x h0 q
theorem u64_pos (x : Int) : 0 ≤ IntKind.u64.wrap x := by rw [IntKind.wrap_u64]; omega
theorem le4_wrap (x : Int) : le4 (IntKind.u64.wrap x) = le4 x := by
  rw [IntKind.wrap_u64]
  unfold le4
  congr 1
  · omega
  · congr 1
    · omega
    · congr 1
      · omega
      · congr 1
        omega
theorem u64_size (n : Nat) (m : Int) (h : n ≤ 4194304) (h0 : 0 ≤ m) (h1 : m ≤ 2147483648) : IntKind.u64.wrap (IntKind.u64.wrap (n : Int) + m) = (n : Int) + m := by
  rw [IntKind.wrap_u64, IntKind.wrap_u64]
  omega
theorem lay_rest (k : Nat) (p b acc : List Int) (a2 : Bool) (G : List Int → Option (List Int)) (hk : 5 ≤ k) (hp : BytM p) (hb : BytM b) (hpl : p.length ≤ 4194304) (ha : acc.length ≤ 1000000000000) :
    (if (b.length : Int) ≥ (p.length : Int) then ((satchelref04_low.f k (IntKind.u64.wrap ((IntKind.u64.wrap ((p.length : Int))) + 2147483648)) 4).bind fun t359 => (if acc.length + t359.length < 140737488355328 then ((some (acc ++ t359 : List Int)).bind fun y362 => (if y362.length + p.length < 140737488355328 then ((some (y362 ++ p : List Int)).bind fun y365 => (if a2 = true then ((satchelref02_Sum32.f 0 p).bind fun t368 => ((satchelref04_low.f k (IntKind.u64.wrap (t368)) 4).bind fun t369 => (if y365.length + t369.length < 140737488355328 then (G (y365 ++ t369)) else (none)))) else (G y365))) else (none))) else (none)))
      else ((satchelref04_low.f k (IntKind.u64.wrap ((IntKind.u64.wrap ((b.length : Int))) + 0)) 4).bind fun t375 => (if acc.length + t375.length < 140737488355328 then ((some (acc ++ t375 : List Int)).bind fun y378 => (if y378.length + b.length < 140737488355328 then ((some (y378 ++ b : List Int)).bind fun y381 => (if a2 = true then ((satchelref02_Sum32.f 0 b).bind fun t384 => ((satchelref04_low.f k (IntKind.u64.wrap (t384)) 4).bind fun t385 => (if y381.length + t385.length < 140737488355328 then (G (y381 ++ t385)) else (none)))) else (G y381))) else (none))) else (none))))
    = G (acc ++ bodyOf a2 p b) := by
  have h4 : ∀ x, (le4 x).length = 4 := fun x => rfl
  by_cases c : p.length ≤ b.length
  · rw [if_pos (by omega), u64_size _ _ hpl (by decide) (by decide), low4_k _ k hk (by omega), Option.bind_some, if_pos (by rw [h4]; omega), Option.bind_some, if_pos (by rw [List.length_append, h4]; omega), Option.bind_some]
    unfold bodyOf
    simp only [if_pos c]
    cases a2 with
    | true => rw [if_pos rfl, rsum_f p hp (by omega), Option.bind_some, low4_k _ k hk (u64_pos _), Option.bind_some, le4_wrap, if_pos (by simp only [List.length_append, h4]; omega), if_pos rfl, List.append_assoc, List.append_assoc, List.append_assoc]
    | false => rw [if_neg (by decide), if_neg (by decide), List.append_nil, List.append_assoc]
  · rw [if_neg (by omega), u64_size _ _ (by omega) (by decide) (by decide), Int.add_zero, low4_k _ k hk (by omega), Option.bind_some, if_pos (by rw [h4]; omega), Option.bind_some, if_pos (by rw [List.length_append, h4]; omega), Option.bind_some]
    unfold bodyOf
    simp only [if_neg c]
    cases a2 with
    | true => rw [if_pos rfl, rsum_f b hb (by omega), Option.bind_some, low4_k _ k hk (u64_pos _), Option.bind_some, le4_wrap, if_pos (by simp only [List.length_append, h4]; omega), if_pos rfl, List.append_assoc, List.append_assoc, List.append_assoc]
    | false => rw [if_neg (by decide), if_neg (by decide), List.append_nil, List.append_assoc]
theorem blk_byt (M : Nat) (a1 : Bool) (plain : List Int) (i : Nat) (hM1 : M ≤ 4194304) (hb : BytM plain) : BytM (blkP M a1 plain i) := by
  unfold blkP
  refine enc_byt _ _ (piece_byt hb i) ?_ (Nat.le_trans (piece_len M plain i) hM1)
  split
  · exact fun x hx => absurd hx (by simp)
  · exact fun x hx => hb x (List.mem_of_mem_take hx)
theorem lay_loop (M : Nat) (plain : List Int) (blk : Int) (a1 a2 a3 a4 : Bool) (hM0 : 65536 ≤ M) (hM1 : M ≤ 4194304) (hl : plain.length ≤ 4194304) (hb : BytM plain) (k : Nat) :
    ∀ (d i : Nat) (acc : List Int), i + d = countP M plain → acc.length ≤ 1000 + i * 5000000 →
      satchelref04_Lay.l0 (k + d + 10) plain ((List.range (countP M plain)).map (blkP M a1 plain)) acc ((List.range (countP M plain)).map (pieceP M plain)) (i : Int) blk a1 a2 a3 a4
        = some (acc ++ (List.range' i d).flatMap (fun i => bodyOf a2 (pieceP M plain i) (blkP M a1 plain i)) ++ tailP a3 plain)
  | 0, i, acc, h, ha => by
    have h64 : i ≤ 64 := by have := count_max M plain hM0 hl; omega
    rw [Nat.add_zero, satchelref04_Lay.l0, if_neg (by rw [List.length_map, List.length_range]; omega), Option.bind_some, if_pos (by simp; omega), Option.bind_some]
    unfold tailP
    cases a3 with
    | true => rw [if_pos rfl, rsum_f _ hb (by omega), Option.bind_some, low4_k _ _ (by omega) (u64_pos _), Option.bind_some, le4_wrap, if_pos (by simp [le4]; omega), if_pos rfl]; simp
    | false => rw [if_neg (by decide), if_neg (by decide)]; simp
  | d + 1, i, acc, h, ha => by
    have hc : i < countP M plain := by omega
    have h64 := count_le M plain hM0 hl i hc
    have h1 := body_len a2 (pieceP M plain i) (blkP M a1 plain i)
    have h2 := piece_len M plain i
    have hw : wrap64 ((i : Int) + 1) = ((i + 1 : Nat) : Int) := by rw [IntWalk.wrap64_in _ (by omega)]; omega
    rw [show k + (d + 1) + 10 = (k + d + 10) + 1 by omega, satchelref04_Lay.l0, if_pos (by rw [List.length_map, List.length_range]; omega), if_pos (by omega), if_pos (by rw [List.length_map, List.length_range]; omega), rd_map _ _ _ hc, rd_map _ _ _ hc, hw]
    refine (lay_rest (k + d + 10) (pieceP M plain i) (blkP M a1 plain i) acc a2 (fun t => satchelref04_Lay.l0 (k + d + 10) plain ((List.range (countP M plain)).map (blkP M a1 plain)) t ((List.range (countP M plain)).map (pieceP M plain)) ((i + 1 : Nat) : Int) blk a1 a2 a3 a4) (by omega) (piece_byt hb i) (blk_byt M a1 plain i hM1 hb) (Nat.le_trans h2 hM1) (by omega)).trans ?_
    show satchelref04_Lay.l0 (k + d + 10) plain _ (acc ++ bodyOf a2 (pieceP M plain i) (blkP M a1 plain i)) _ ((i + 1 : Nat) : Int) blk a1 a2 a3 a4 = _
    rw [lay_loop M plain blk a1 a2 a3 a4 hM0 hM1 hl hb k d (i + 1) _ (by omega) (by rw [List.length_append]; omega), List.range'_succ, List.flatMap_cons, List.append_assoc acc]
theorem lay_f (blk : Int) (a1 a2 a3 a4 : Bool) (plain : List Int) (h0 : 4 ≤ blk) (h1 : blk ≤ 7) (hl : plain.length ≤ 4194304) (hb : BytM plain) (k : Nat) (hk : 200 ≤ k) :
    satchelref04_Lay.f k plain blk a1 a2 a3 a4 ((List.range (countP (bigOf blk) plain)).map (blkP (bigOf blk) a1 plain)) = some (frameP blk a1 a2 a3 a4 plain) := by
  obtain ⟨hM0, hM1⟩ := big_in blk h0 h1
  have hn := count_max (bigOf blk) plain hM0 hl
  unfold satchelref04_Lay.f
  rw [pieces_f blk a1 a2 a3 a4 plain h0 h1 hl k (by omega)]
  obtain ⟨q, rfl⟩ : ∃ q, k = q + 9 := ⟨k - 9, by omega⟩
  rw [rhead_f q blk a1 a2 a3 a4 _ h0 h1 (by omega) (by omega), Option.bind_some, Option.bind_some]
  have h := lay_loop (bigOf blk) plain blk a1 a2 a3 a4 hM0 hM1 hl hb (q + 9 - countP (bigOf blk) plain - 10) (countP (bigOf blk) plain) 0 ([4, 34, 77, 24] ++ headP blk a1 a2 a3 a4 (plain.length : Int)) (by omega) (by have := head_len blk a1 a2 a3 a4 (plain.length : Int); simp; omega)
  rw [show q + 9 - countP (bigOf blk) plain - 10 + countP (bigOf blk) plain + 10 = q + 9 by omega] at h
  exact h
theorem piece_full (M : Nat) (plain : List Int) (i : Nat) (h : (i + 1) * M < plain.length) : (pieceP M plain i).length = M := by
  have hs : (i + 1) * M = i * M + M := Nat.succ_mul i M
  unfold pieceP
  rw [List.length_take, List.length_drop]
  omega
theorem laid_loop (M : Nat) (plain : List Int) (blk : Int) (a1 a2 a3 a4 : Bool) (hM0 : 65536 ≤ M) (hM1 : M ≤ 4194304) (hl : plain.length ≤ 4194304) (hb : BytM plain) (k : Nat) :
    ∀ (d i : Nat) (x8 : Int), i + d = countP M plain → (i < countP M plain → x8 = ((i * M : Nat) : Int)) →
      satchellaw04_laid.l0 (k + d + 1) plain ((List.range (countP M plain)).map (pieceP M plain)) ((List.range i).map (blkP M a1 plain)) x8 (i : Int) blk a1 a2 a3 a4
        = (satchelref04_Lay.f k plain blk a1 a2 a3 a4 ((List.range (countP M plain)).map (blkP M a1 plain))).bind fun t => some (t, 0)
  | 0, i, x8, h, hx => by
    have e : i = countP M plain := by omega
    subst e
    rw [Nat.add_zero, satchellaw04_laid.l0, if_neg (by rw [List.length_map, List.length_range]; omega)]
  | d + 1, i, x8, h, hx => by
    have hc : i < countP M plain := by omega
    have h64 := count_le M plain hM0 hl i hc
    have hi := (count_lt M plain (by omega) i).1 hc
    have h2 := piece_len M plain i
    obtain rfl := hx hc
    have hw : wrap64 ((i : Int) + 1) = ((i + 1 : Nat) : Int) := by rw [IntWalk.wrap64_in _ (by omega)]; omega
    have hnb : BytM ([] : List Int) := fun x hx => absurd hx (by simp)
    have hab : BytM (plain.take (i * M)) := fun x hx => hb x (List.mem_of_mem_take hx)
    have hal : (plain.take (i * M)).length ≤ 4194304 := by rw [List.length_take]; omega
    have ih := laid_loop M plain blk a1 a2 a3 a4 hM0 hM1 hl hb k d (i + 1) (wrap64 (((i * M : Nat) : Int) + ((pieceP M plain i).length : Int))) (by omega) (fun hc2 => by
      have h3 := (count_lt M plain (by omega) (i + 1)).1 hc2
      rw [piece_full M plain i h3, IntWalk.wrap64_in _ (by omega), Nat.succ_mul]
      omega)
    rw [map_snoc] at ih
    rw [show k + (d + 1) + 1 = (k + d + 1) + 1 by omega, satchellaw04_laid.l0, if_pos (by rw [List.length_map, List.length_range]; omega), rd_map _ _ _ hc, hw]
    cases a1 with
    | true =>
      have eb : blkP M true plain i = (W.encode (pieceP M plain i) []).1 := by unfold blkP; rw [if_pos rfl]
      rw [if_pos rfl, Option.bind_some, if_pos (by omega), if_pos (by simp only [List.length_nil]; omega), List.nil_append, lzenc_f _ _ (piece_byt hb i) hnb (Nat.le_trans h2 hM1) (by decide), Option.bind_some, if_pos (by rw [List.length_map, List.length_range]; omega)]
      rw [eb] at ih
      exact ih
    | false =>
      have eb : blkP M false plain i = (W.encode (pieceP M plain i) (plain.take (i * M))).1 := by unfold blkP; rw [if_neg (by decide)]
      rw [if_neg (by decide), if_pos (by omega), if_pos (by omega), Int.toNat_natCast, if_pos (by simp only [List.length_nil]; omega), Option.bind_some, if_pos (by omega), if_pos (by simp only [List.length_nil]; omega), List.nil_append, List.nil_append, lzenc_f _ _ (piece_byt hb i) hab (Nat.le_trans h2 hM1) hal, Option.bind_some, if_pos (by rw [List.length_map, List.length_range]; omega)]
      rw [eb] at ih
      exact ih
theorem laid_f (blk : Int) (a1 a2 a3 a4 : Bool) (plain : List Int) (h0 : 4 ≤ blk) (h1 : blk ≤ 7) (hl : plain.length ≤ 4194304) (hb : BytM plain) (k : Nat) (hk : 400 ≤ k) :
    satchellaw04_laid.f k plain blk a1 a2 a3 a4 = some (frameP blk a1 a2 a3 a4 plain, 0) := by
  obtain ⟨hM0, hM1⟩ := big_in blk h0 h1
  have hn := count_max (bigOf blk) plain hM0 hl
  unfold satchellaw04_laid.f satchelref04_Can.f
  rw [if_pos (by omega), Option.bind_some, if_pos (by simpa using h1), if_neg (by omega), pieces_f blk a1 a2 a3 a4 plain h0 h1 hl k (by omega), Option.bind_some]
  have h := laid_loop (bigOf blk) plain blk a1 a2 a3 a4 hM0 hM1 hl hb (k - countP (bigOf blk) plain - 1) (countP (bigOf blk) plain) 0 0 (by omega) (fun _ => by simp)
  rw [show k - countP (bigOf blk) plain - 1 + countP (bigOf blk) plain + 1 = k by omega, lay_f blk a1 a2 a3 a4 plain h0 h1 hl hb _ (by omega), Option.bind_some] at h
  exact h
/-- What Encode makes, or its error. -/
def encodeP (blk : Int) (a1 a2 a3 a4 : Bool) (plain : List Int) : List Int × Int :=
  if 4 ≤ blk ∧ blk ≤ 7 then (if plain.length ≤ 4194304 then (frameP blk a1 a2 a3 a4 plain, 0) else ([], 2)) else ([], 1)
theorem encode_all (blk : Int) (a1 a2 a3 a4 : Bool) (plain : List Int) (hb : BytM plain) (k : Nat) (hk : 400 ≤ k) :
    frame_Encode.f k plain blk a1 a2 a3 a4 = some (encodeP blk a1 a2 a3 a4 plain) ∧ satchellaw04_laid.f k plain blk a1 a2 a3 a4 = some (encodeP blk a1 a2 a3 a4 plain) := by
  unfold encodeP
  by_cases c : 4 ≤ blk ∧ blk ≤ 7
  · rw [if_pos c]
    by_cases c2 : plain.length ≤ 4194304
    · rw [if_pos c2]
      exact ⟨encode_f blk a1 a2 a3 a4 plain c.1 c.2 c2 hb k (by omega), laid_f blk a1 a2 a3 a4 plain c.1 c.2 c2 hb k hk⟩
    · rw [if_neg c2]
      unfold frame_Encode.f satchellaw04_laid.f satchelref04_Can.f
      rw [if_neg (by omega), if_neg (by omega), if_pos (by omega), if_pos (by omega), Option.bind_some, if_pos (by simpa using c.2), if_pos (by omega)]
      exact ⟨rfl, rfl⟩
  · rw [if_neg c]
    unfold frame_Encode.f satchellaw04_laid.f satchelref04_Can.f
    by_cases c3 : blk < 4
    · rw [if_pos c3, if_neg (by omega), Option.bind_some, if_neg (by decide)]
      exact ⟨rfl, rfl⟩
    · rw [if_neg c3, if_pos (by omega), if_pos (by omega), Option.bind_some, if_neg (by simp; omega)]
      exact ⟨rfl, rfl⟩
/-- A frame that is skipped, or the error. -/
def skipP (u : Int) (b : List Int) : List Int × Int :=
  if 0 ≤ u ∧ u ≤ 15 then (if b.length ≤ 4194304 then (le4 (407710288 + u) ++ le4 (b.length : Int) ++ b, 0) else ([], 2)) else ([], 1)
theorem skip_p (u : Int) (b : List Int) (q : Nat) : frame_Skip.f (q + 1) u b = some (skipP u b) := by
  have h4 : ∀ x, (le4 x).length = 4 := fun x => rfl
  unfold frame_Skip.f
  by_cases c3 : u < 0
  · rw [if_pos c3, frame_Skip.j0, if_pos rfl]
    unfold skipP
    rw [if_neg (show ¬ (0 ≤ u ∧ u ≤ 15) by omega)]
  · rw [if_neg c3, frame_Skip.j0]
    by_cases c4 : u > 15
    · rw [if_pos (decide_eq_true c4)]
      unfold skipP
      rw [if_neg (show ¬ (0 ≤ u ∧ u ≤ 15) by omega)]
    · rw [if_neg (by simp; omega)]
      unfold skipP
      rw [if_pos (show 0 ≤ u ∧ u ≤ 15 by omega)]
      by_cases c2 : b.length ≤ 4194304
      · have e1 : (407710288 + u % 4294967296) % 4294967296 = 407710288 + u := by omega
        have e2 : ((b.length : Int)) % 4294967296 = (b.length : Int) := by omega
        rw [if_pos c2, if_neg (show ¬ (b.length : Int) > 4194304 by omega), e1, e2, put32_f _ _ (by decide), Option.bind_some, put32_f _ _ (by simp [le4]), Option.bind_some, if_pos (by simp only [List.length_append, h4, List.length_nil]; omega), List.nil_append]
      · rw [if_neg c2, if_pos (show (b.length : Int) > 4194304 by omega)]
theorem skip_d (u : Int) (b : List Int) (q : Nat) (hq : 5 ≤ q) : satchelref04_Skip.f (q + 1) u b = some (skipP u b) := by
  have h4 : ∀ x, (le4 x).length = 4 := fun x => rfl
  unfold satchelref04_Skip.f
  by_cases c3 : u < 0
  · rw [if_pos c3, satchelref04_Skip.j0, if_pos rfl]
    unfold skipP
    rw [if_neg (show ¬ (0 ≤ u ∧ u ≤ 15) by omega)]
  · rw [if_neg c3, satchelref04_Skip.j0]
    by_cases c4 : u > 15
    · rw [if_pos (decide_eq_true c4)]
      unfold skipP
      rw [if_neg (show ¬ (0 ≤ u ∧ u ≤ 15) by omega)]
    · rw [if_neg (by simp; omega)]
      unfold skipP
      rw [if_pos (show 0 ≤ u ∧ u ≤ 15 by omega)]
      by_cases c2 : b.length ≤ 4194304
      · have e3 : IntKind.u64.wrap (b.length : Int) = (b.length : Int) := by rw [IntKind.wrap_u64]; omega
        have e4 : [(wrap64 (80 + u)) % 256, 42, 77, 24] = le4 (407710288 + u) := by
          rw [IntWalk.wrap64_in _ (by omega)]
          unfold le4
          congr 1
          · omega
          · congr 1
            · omega
            · congr 1
              · omega
              · congr 1
                omega
        rw [if_pos c2, if_neg (show ¬ (b.length : Int) > 4194304 by omega), e3, e4, Option.bind_some, low4_k _ q hq (by omega), Option.bind_some, if_pos (by rw [h4, h4]; decide), Option.bind_some, if_pos (by rw [List.length_append, h4, h4]; omega)]
      · rw [if_neg c2, if_pos (show (b.length : Int) > 4194304 by omega)]
theorem skip_all (u : Int) (b : List Int) (k : Nat) (hk : 10 ≤ k) : frame_Skip.f k u b = some (skipP u b) ∧ satchelref04_Skip.f k u b = some (skipP u b) := by
  obtain ⟨q, rfl⟩ : ∃ q, k = q + 1 := ⟨k - 1, by omega⟩
  exact ⟨skip_p u b q, skip_d u b q (by omega)⟩
end Go.Proofs.Ytnomebkdhjigjaa.Frm
namespace Go.Proofs.Ytnomebkdhjigjaa.GFrameEncodes
open Go.RowKit Go.Proofs.Ytnomebkdhjigjaa.Z Go.Proofs.YtnomebkdhjigjaaW.PrintWords Go.Proofs.YtnomebkdhjigjaaW.PrintLast Go.Proofs.YtnomebkdhjigjaaW.PrintMore
attribute [local go_sem] max2_int min2_int max_two min_two max_three min_three max_four min_four   -- for this text's walks alone
set_option linter.unusedVariables false
set_option linter.unusedSimpArgs false

/-! ### satchellaw04_FrameEncodes: function 10 -/
mutual
def satchellaw04_FrameEncodes.j0 : Nat → List Int → List Int → List Int → List Int → List Int → Bool → Option (Bool)
  | 0, _, _, _, _, _, _ => none
  | k + 1, x8, x10, x12, x14, x16, x87 => if x87 = true then (some false) else (satchellaw04_FrameEncodes.l0 k x8 x10 x12 x14 x16 0)
def satchellaw04_FrameEncodes.l0 : Nat → List Int → List Int → List Int → List Int → List Int → Int → Option (Bool)
  | 0, _, _, _, _, _, _ => none
  | k + 1, x8, x10, x12, x14, x16, x18 => if x18 < (x8.length : Int) then (if 0 ≤ x18 then (satchellaw04_FrameEncodes.l0 k (x8.set (x18 : Int).toNat 238) x10 x12 x14 x16 (wrap64 (x18 + 1))) else (none)) else (if x8.length < 140737488355328 then (if (strOfNums x10).toList = (strOfNums x12).toList then (some ((strOfNums x14).toList == (strOfNums x16).toList)) else (some false)) else (none))
end
def satchellaw04_FrameEncodes.f (k : Nat) (l0 : List Int) (a1_0 : Int) (a1_1 : Bool) (a1_2 : Bool) (a1_3 : Bool) (a1_4 : Bool) (a2 : Int) : Option (Bool) := (satchellaw04_hand.f l0).bind fun t460 => (if 0 ≤ (l0.length : Int) then (if (l0.length : Int) ≤ (t460.length : Int) then ((frame_Encode.f k (t460.take ((l0.length : Int) : Int).toNat) a1_0 a1_1 a1_2 a1_3 a1_4).bind fun bt467 => ((frame_Encode.f k (t460.take ((l0.length : Int) : Int).toNat) a1_0 a1_1 a1_2 a1_3 a1_4).bind fun bt475 => ((satchellaw04_laid.f k l0 a1_0 a1_1 a1_2 a1_3 a1_4).bind fun bt479 => ((frame_Skip.f k a2 (t460.take ((l0.length : Int) : Int).toNat)).bind fun bt487 => ((satchelref04_Skip.f k a2 l0).bind fun bt491 => (if bt467.2 = bt479.2 then (if bt487.2 = bt491.2 then (if (strOfNums bt467.1).toList = (strOfNums bt479.1).toList then (if (strOfNums bt487.1).toList = (strOfNums bt491.1).toList then ((satchellaw04_left.f k t460 l0).bind fun bt495 => (satchellaw04_FrameEncodes.j0 k bt467.1 bt475.1 bt479.1 bt487.1 bt491.1 (!bt495.1))) else (satchellaw04_FrameEncodes.j0 k bt467.1 bt475.1 bt479.1 bt487.1 bt491.1 true)) else (satchellaw04_FrameEncodes.j0 k bt467.1 bt475.1 bt479.1 bt487.1 bt491.1 true)) else (satchellaw04_FrameEncodes.j0 k bt467.1 bt475.1 bt479.1 bt487.1 bt491.1 true)) else (satchellaw04_FrameEncodes.j0 k bt467.1 bt475.1 bt479.1 bt487.1 bt491.1 true))))))) else (none)) else (none))
def satchellaw04_FrameEncodes.T2 : Bool × List (List Nat × List Nat) := (true, [([], []), ([], []), ([1], [1]), ([0, 2], [0, 2]), ([], []), ([3, 4], [3, 4]), ([5], [5]), ([6], [6]), ([6], [6]), ([7, 5, 0, 1, 2, 3, 4, 5, 6, 7], [7]), ([8, 9, 0, 1, 2, 3, 4, 5, 6, 7, 8, 9], [8])])
def satchellaw04_FrameEncodes.B2 : List Nat := [0, 0, 2, 7, 0, 31, 63, 127, 127, 255, 1023]
theorem satchellaw04_FrameEncodes.tab2 : rtab .any (opsOf Try.f10 2) = satchellaw04_FrameEncodes.T2 := by kernel_rfl
theorem satchellaw04_FrameEncodes.bits2 : waitsOk satchellaw04_FrameEncodes.T2.2 satchellaw04_FrameEncodes.B2 = true := by kernel_rfl
def satchellaw04_FrameEncodes.T3 : Bool × List (List Nat × List Nat) := (true, [([], []), ([], []), ([1], [1]), ([0, 2], [0, 2]), ([], []), ([3, 4], [3, 4]), ([5], [5]), ([6], [6]), ([6], [6]), ([7, 5, 0, 1, 2, 3, 4, 5, 6, 7], [7]), ([8, 9, 0, 1, 2, 3, 4, 5, 6, 7, 8, 9], [8])])
def satchellaw04_FrameEncodes.B3 : List Nat := [0, 0, 2, 7, 0, 31, 63, 127, 127, 255, 1023]
theorem satchellaw04_FrameEncodes.tab3 : rtab .any (opsOf Try.f10 3) = satchellaw04_FrameEncodes.T3 := by kernel_rfl
theorem satchellaw04_FrameEncodes.bits3 : waitsOk satchellaw04_FrameEncodes.T3.2 satchellaw04_FrameEncodes.B3 = true := by kernel_rfl
set_option maxHeartbeats 8000000 in
set_option maxRecDepth 100000 in
theorem satchellaw04_FrameEncodes.calls (k : Nat) (A0 : Option Addr) (c0 : Nat) (l0 : List Int) (a1_0 : Int) (a1_1 : Bool) (a1_2 : Bool) (a1_3 : Bool) (a1_4 : Bool) (a2 : Int) (r : Bool) (w : World) (hr0 : Kd.C (Kd.int .u8) w A0 l0.length l0) (hc0 : l0.length ≤ c0) (h : satchellaw04_FrameEncodes.f k l0 a1_0 a1_1 a1_2 a1_3 a1_4 a2 = some r) :
    Calls Try.prog 10 #[.slice A0 l0.length c0, .agg #[.int .i64 a1_0, .bool a1_1, .bool a1_2, .bool a1_3, .bool a1_4], .int .i64 a2] w fun e w' => e = .returned (.bool r) ∧ Below w.heap.size w w' := by
  have hu31 := Try.underlying31
  have HR0 := Aside0.mk hr0
  have HC0 := Aside0.mk hc0
  clear hr0 hc0
  have HB := Aside0.mk (Below.refl w.heap.size w)
  have H : ((satchellaw04_hand.f l0).bind fun t460 => (if 0 ≤ (l0.length : Int) then (if (l0.length : Int) ≤ (t460.length : Int) then ((frame_Encode.f k (t460.take ((l0.length : Int) : Int).toNat) a1_0 a1_1 a1_2 a1_3 a1_4).bind fun bt467 => ((frame_Encode.f k (t460.take ((l0.length : Int) : Int).toNat) a1_0 a1_1 a1_2 a1_3 a1_4).bind fun bt475 => ((satchellaw04_laid.f k l0 a1_0 a1_1 a1_2 a1_3 a1_4).bind fun bt479 => ((frame_Skip.f k a2 (t460.take ((l0.length : Int) : Int).toNat)).bind fun bt487 => ((satchelref04_Skip.f k a2 l0).bind fun bt491 => (if bt467.2 = bt479.2 then (if bt487.2 = bt491.2 then (if (strOfNums bt467.1).toList = (strOfNums bt479.1).toList then (if (strOfNums bt487.1).toList = (strOfNums bt491.1).toList then ((satchellaw04_left.f k t460 l0).bind fun bt495 => (satchellaw04_FrameEncodes.j0 k bt467.1 bt475.1 bt479.1 bt487.1 bt491.1 (!bt495.1))) else (satchellaw04_FrameEncodes.j0 k bt467.1 bt475.1 bt479.1 bt487.1 bt491.1 true)) else (satchellaw04_FrameEncodes.j0 k bt467.1 bt475.1 bt479.1 bt487.1 bt491.1 true)) else (satchellaw04_FrameEncodes.j0 k bt467.1 bt475.1 bt479.1 bt487.1 bt491.1 true)) else (satchellaw04_FrameEncodes.j0 k bt467.1 bt475.1 bt479.1 bt487.1 bt491.1 true))))))) else (none)) else (none))) = some r := h
  clear h
  replace H := Option.bind_eq_some_iff.mp H
  obtain ⟨t460, A40, H⟩ := H
  replace H : (if 0 ≤ (l0.length : Int) then (if (l0.length : Int) ≤ (t460.length : Int) then ((frame_Encode.f k (t460.take ((l0.length : Int) : Int).toNat) a1_0 a1_1 a1_2 a1_3 a1_4).bind fun bt467 => ((frame_Encode.f k (t460.take ((l0.length : Int) : Int).toNat) a1_0 a1_1 a1_2 a1_3 a1_4).bind fun bt475 => ((satchellaw04_laid.f k l0 a1_0 a1_1 a1_2 a1_3 a1_4).bind fun bt479 => ((frame_Skip.f k a2 (t460.take ((l0.length : Int) : Int).toNat)).bind fun bt487 => ((satchelref04_Skip.f k a2 l0).bind fun bt491 => (if bt467.2 = bt479.2 then (if bt487.2 = bt491.2 then (if (strOfNums bt467.1).toList = (strOfNums bt479.1).toList then (if (strOfNums bt487.1).toList = (strOfNums bt491.1).toList then ((satchellaw04_left.f k t460 l0).bind fun bt495 => (satchellaw04_FrameEncodes.j0 k bt467.1 bt475.1 bt479.1 bt487.1 bt491.1 (!bt495.1))) else (satchellaw04_FrameEncodes.j0 k bt467.1 bt475.1 bt479.1 bt487.1 bt491.1 true)) else (satchellaw04_FrameEncodes.j0 k bt467.1 bt475.1 bt479.1 bt487.1 bt491.1 true)) else (satchellaw04_FrameEncodes.j0 k bt467.1 bt475.1 bt479.1 bt487.1 bt491.1 true)) else (satchellaw04_FrameEncodes.j0 k bt467.1 bt475.1 bt479.1 bt487.1 bt491.1 true))))))) else (none)) else (none)) = some r := H
  have A4 := Aside0.mk A40
  clear A40
  by_cases c5 : 0 ≤ (l0.length : Int)
  · rw [if_pos c5] at H
    have c5b0 := eq_true c5
    have c5b1 : decide (0 ≤ (l0.length : Int)) = true := decide_eq_true c5
    clear c5
    by_cases c6 : (l0.length : Int) ≤ (t460.length : Int)
    · rw [if_pos c6] at H
      have c6b0 := eq_true c6
      have c6b1 : decide ((l0.length : Int) ≤ (t460.length : Int)) = true := decide_eq_true c6
      clear c6
      obtain ⟨y463, hy463⟩ : ∃ y_ : List Int, y_ = (t460.take ((l0.length : Int) : Int).toNat) := ⟨_, rfl⟩
      replace H : ((frame_Encode.f k y463 a1_0 a1_1 a1_2 a1_3 a1_4).bind fun bt467 => ((frame_Encode.f k (t460.take ((l0.length : Int) : Int).toNat) a1_0 a1_1 a1_2 a1_3 a1_4).bind fun bt475 => ((satchellaw04_laid.f k l0 a1_0 a1_1 a1_2 a1_3 a1_4).bind fun bt479 => ((frame_Skip.f k a2 (t460.take ((l0.length : Int) : Int).toNat)).bind fun bt487 => ((satchelref04_Skip.f k a2 l0).bind fun bt491 => (if bt467.2 = bt479.2 then (if bt487.2 = bt491.2 then (if (strOfNums bt467.1).toList = (strOfNums bt479.1).toList then (if (strOfNums bt487.1).toList = (strOfNums bt491.1).toList then ((satchellaw04_left.f k t460 l0).bind fun bt495 => (satchellaw04_FrameEncodes.j0 k bt467.1 bt475.1 bt479.1 bt487.1 bt491.1 (!bt495.1))) else (satchellaw04_FrameEncodes.j0 k bt467.1 bt475.1 bt479.1 bt487.1 bt491.1 true)) else (satchellaw04_FrameEncodes.j0 k bt467.1 bt475.1 bt479.1 bt487.1 bt491.1 true)) else (satchellaw04_FrameEncodes.j0 k bt467.1 bt475.1 bt479.1 bt487.1 bt491.1 true)) else (satchellaw04_FrameEncodes.j0 k bt467.1 bt475.1 bt479.1 bt487.1 bt491.1 true))))))) = some r := by first | (rw [hy463]; with_reducible exact H) | (have H2_ := (Option.bind_some _ _).symm.trans H; rw [hy463]; with_reducible exact H2_) | (have H2_ := (Option.bind_some _ _).symm.trans H; with_reducible exact H2_) | with_reducible exact H | (rw [hy463]; exact H) | exact H
      have Ny463 := Aside0.mk hy463
      clear hy463
      replace H := Option.bind_eq_some_iff.mp H
      obtain ⟨⟨t467, t470⟩, A70, H⟩ := H
      replace H : ((frame_Encode.f k (t460.take ((l0.length : Int) : Int).toNat) a1_0 a1_1 a1_2 a1_3 a1_4).bind fun bt475 => ((satchellaw04_laid.f k l0 a1_0 a1_1 a1_2 a1_3 a1_4).bind fun bt479 => ((frame_Skip.f k a2 (t460.take ((l0.length : Int) : Int).toNat)).bind fun bt487 => ((satchelref04_Skip.f k a2 l0).bind fun bt491 => (if t470 = bt479.2 then (if bt487.2 = bt491.2 then (if (strOfNums t467).toList = (strOfNums bt479.1).toList then (if (strOfNums bt487.1).toList = (strOfNums bt491.1).toList then ((satchellaw04_left.f k t460 l0).bind fun bt495 => (satchellaw04_FrameEncodes.j0 k t467 bt475.1 bt479.1 bt487.1 bt491.1 (!bt495.1))) else (satchellaw04_FrameEncodes.j0 k t467 bt475.1 bt479.1 bt487.1 bt491.1 true)) else (satchellaw04_FrameEncodes.j0 k t467 bt475.1 bt479.1 bt487.1 bt491.1 true)) else (satchellaw04_FrameEncodes.j0 k t467 bt475.1 bt479.1 bt487.1 bt491.1 true)) else (satchellaw04_FrameEncodes.j0 k t467 bt475.1 bt479.1 bt487.1 bt491.1 true)))))) = some r := H
      have A7 := Aside0.mk A70
      clear A70
      have c8b0 := eq_true (of_decide_eq_true (by first | (with_reducible assumption) | assumption) : 0 ≤ (l0.length : Int))
      have c9b0 := eq_true (of_decide_eq_true (by first | (with_reducible assumption) | assumption) : (l0.length : Int) ≤ (t460.length : Int))
      obtain ⟨y471, hy471⟩ : ∃ y_ : List Int, y_ = (t460.take ((l0.length : Int) : Int).toNat) := ⟨_, rfl⟩
      replace H : ((frame_Encode.f k y471 a1_0 a1_1 a1_2 a1_3 a1_4).bind fun bt475 => ((satchellaw04_laid.f k l0 a1_0 a1_1 a1_2 a1_3 a1_4).bind fun bt479 => ((frame_Skip.f k a2 (t460.take ((l0.length : Int) : Int).toNat)).bind fun bt487 => ((satchelref04_Skip.f k a2 l0).bind fun bt491 => (if t470 = bt479.2 then (if bt487.2 = bt491.2 then (if (strOfNums t467).toList = (strOfNums bt479.1).toList then (if (strOfNums bt487.1).toList = (strOfNums bt491.1).toList then ((satchellaw04_left.f k t460 l0).bind fun bt495 => (satchellaw04_FrameEncodes.j0 k t467 bt475.1 bt479.1 bt487.1 bt491.1 (!bt495.1))) else (satchellaw04_FrameEncodes.j0 k t467 bt475.1 bt479.1 bt487.1 bt491.1 true)) else (satchellaw04_FrameEncodes.j0 k t467 bt475.1 bt479.1 bt487.1 bt491.1 true)) else (satchellaw04_FrameEncodes.j0 k t467 bt475.1 bt479.1 bt487.1 bt491.1 true)) else (satchellaw04_FrameEncodes.j0 k t467 bt475.1 bt479.1 bt487.1 bt491.1 true)))))) = some r := by first | (rw [hy471]; with_reducible exact H) | (have H2_ := (Option.bind_some _ _).symm.trans H; rw [hy471]; with_reducible exact H2_) | (have H2_ := (Option.bind_some _ _).symm.trans H; with_reducible exact H2_) | with_reducible exact H | (rw [hy471]; exact H) | exact H
      have Ny471 := Aside0.mk hy471
      clear hy471
      replace H := Option.bind_eq_some_iff.mp H
      obtain ⟨⟨t475, t478⟩, A100, H⟩ := H
      replace H : ((satchellaw04_laid.f k l0 a1_0 a1_1 a1_2 a1_3 a1_4).bind fun bt479 => ((frame_Skip.f k a2 (t460.take ((l0.length : Int) : Int).toNat)).bind fun bt487 => ((satchelref04_Skip.f k a2 l0).bind fun bt491 => (if t470 = bt479.2 then (if bt487.2 = bt491.2 then (if (strOfNums t467).toList = (strOfNums bt479.1).toList then (if (strOfNums bt487.1).toList = (strOfNums bt491.1).toList then ((satchellaw04_left.f k t460 l0).bind fun bt495 => (satchellaw04_FrameEncodes.j0 k t467 t475 bt479.1 bt487.1 bt491.1 (!bt495.1))) else (satchellaw04_FrameEncodes.j0 k t467 t475 bt479.1 bt487.1 bt491.1 true)) else (satchellaw04_FrameEncodes.j0 k t467 t475 bt479.1 bt487.1 bt491.1 true)) else (satchellaw04_FrameEncodes.j0 k t467 t475 bt479.1 bt487.1 bt491.1 true)) else (satchellaw04_FrameEncodes.j0 k t467 t475 bt479.1 bt487.1 bt491.1 true))))) = some r := H
      have A10 := Aside0.mk A100
      clear A100
      replace H := Option.bind_eq_some_iff.mp H
      obtain ⟨⟨t479, t482⟩, A110, H⟩ := H
      replace H : ((frame_Skip.f k a2 (t460.take ((l0.length : Int) : Int).toNat)).bind fun bt487 => ((satchelref04_Skip.f k a2 l0).bind fun bt491 => (if t470 = t482 then (if bt487.2 = bt491.2 then (if (strOfNums t467).toList = (strOfNums t479).toList then (if (strOfNums bt487.1).toList = (strOfNums bt491.1).toList then ((satchellaw04_left.f k t460 l0).bind fun bt495 => (satchellaw04_FrameEncodes.j0 k t467 t475 t479 bt487.1 bt491.1 (!bt495.1))) else (satchellaw04_FrameEncodes.j0 k t467 t475 t479 bt487.1 bt491.1 true)) else (satchellaw04_FrameEncodes.j0 k t467 t475 t479 bt487.1 bt491.1 true)) else (satchellaw04_FrameEncodes.j0 k t467 t475 t479 bt487.1 bt491.1 true)) else (satchellaw04_FrameEncodes.j0 k t467 t475 t479 bt487.1 bt491.1 true)))) = some r := H
      have A11 := Aside0.mk A110
      clear A110
      have c12b0 := eq_true (of_decide_eq_true (by first | (with_reducible assumption) | assumption) : 0 ≤ (l0.length : Int))
      have c13b0 := eq_true (of_decide_eq_true (by first | (with_reducible assumption) | assumption) : (l0.length : Int) ≤ (t460.length : Int))
      obtain ⟨y483, hy483⟩ : ∃ y_ : List Int, y_ = (t460.take ((l0.length : Int) : Int).toNat) := ⟨_, rfl⟩
      replace H : ((frame_Skip.f k a2 y483).bind fun bt487 => ((satchelref04_Skip.f k a2 l0).bind fun bt491 => (if t470 = t482 then (if bt487.2 = bt491.2 then (if (strOfNums t467).toList = (strOfNums t479).toList then (if (strOfNums bt487.1).toList = (strOfNums bt491.1).toList then ((satchellaw04_left.f k t460 l0).bind fun bt495 => (satchellaw04_FrameEncodes.j0 k t467 t475 t479 bt487.1 bt491.1 (!bt495.1))) else (satchellaw04_FrameEncodes.j0 k t467 t475 t479 bt487.1 bt491.1 true)) else (satchellaw04_FrameEncodes.j0 k t467 t475 t479 bt487.1 bt491.1 true)) else (satchellaw04_FrameEncodes.j0 k t467 t475 t479 bt487.1 bt491.1 true)) else (satchellaw04_FrameEncodes.j0 k t467 t475 t479 bt487.1 bt491.1 true)))) = some r := by first | (rw [hy483]; with_reducible exact H) | (have H2_ := (Option.bind_some _ _).symm.trans H; rw [hy483]; with_reducible exact H2_) | (have H2_ := (Option.bind_some _ _).symm.trans H; with_reducible exact H2_) | with_reducible exact H | (rw [hy483]; exact H) | exact H
      have Ny483 := Aside0.mk hy483
      clear hy483
      replace H := Option.bind_eq_some_iff.mp H
      obtain ⟨⟨t487, t488⟩, A140, H⟩ := H
      replace H : ((satchelref04_Skip.f k a2 l0).bind fun bt491 => (if t470 = t482 then (if t488 = bt491.2 then (if (strOfNums t467).toList = (strOfNums t479).toList then (if (strOfNums t487).toList = (strOfNums bt491.1).toList then ((satchellaw04_left.f k t460 l0).bind fun bt495 => (satchellaw04_FrameEncodes.j0 k t467 t475 t479 t487 bt491.1 (!bt495.1))) else (satchellaw04_FrameEncodes.j0 k t467 t475 t479 t487 bt491.1 true)) else (satchellaw04_FrameEncodes.j0 k t467 t475 t479 t487 bt491.1 true)) else (satchellaw04_FrameEncodes.j0 k t467 t475 t479 t487 bt491.1 true)) else (satchellaw04_FrameEncodes.j0 k t467 t475 t479 t487 bt491.1 true))) = some r := H
      have A14 := Aside0.mk A140
      clear A140
      replace H := Option.bind_eq_some_iff.mp H
      obtain ⟨⟨t491, t492⟩, A150, H⟩ := H
      replace H : (if t470 = t482 then (if t488 = t492 then (if (strOfNums t467).toList = (strOfNums t479).toList then (if (strOfNums t487).toList = (strOfNums t491).toList then ((satchellaw04_left.f k t460 l0).bind fun bt495 => (satchellaw04_FrameEncodes.j0 k t467 t475 t479 t487 t491 (!bt495.1))) else (satchellaw04_FrameEncodes.j0 k t467 t475 t479 t487 t491 true)) else (satchellaw04_FrameEncodes.j0 k t467 t475 t479 t487 t491 true)) else (satchellaw04_FrameEncodes.j0 k t467 t475 t479 t487 t491 true)) else (satchellaw04_FrameEncodes.j0 k t467 t475 t479 t487 t491 true)) = some r := H
      have A15 := Aside0.mk A150
      clear A150
      have HC16 := Aside0.mk H
      clear H
      go_enter Try.func10, Try.ntmps10
      try go_wp2_with (first | ((with_reducible refine gate_dst (N := 4) rfl ?_); refine box_event ?hg (N := 4) ?hd (cs := #[.int .i64 a1_0, .bool a1_1, .bool a1_2, .bool a1_3, .bool a1_4]) (t := 31) ?hr ?_; (case hd => rfl); (case hg => rfl); (case hr => first | (go_simp; done) | (go_simp; rfl)); intro gb459 hg w17 hbox hb; have n0_ := Aside0.mk (below_step (by repeat (first | (with_reducible first | exact HB.out | apply below_alloc | apply pw_below_drewN | apply below_drew1) | exact HB.out)) hb); have n1_ := Aside0.mk (hbox); have n2_ := Aside0.mk ((by rw [hg]; exact (below_size (by repeat (first | (with_reducible first | exact HB.out | apply below_alloc | apply pw_below_drewN | apply below_drew1) | exact HB.out))) : w.heap.size ≤ gb459)); have n3_ := Aside0.mk ((by rw [hg]; exact (below_size (by repeat (first | (with_reducible first | exact HB.out | apply below_alloc | apply pw_below_drewN | apply below_drew1) | exact HB.out))) : w.heap.size ≤ gb459)); clear HB; have HB := n0_; have BK459 := n1_; have GW459 := n2_; have GE459 := n3_; clear n0_ n1_ n2_ n3_; clear hb hbox hg) | ((with_reducible refine gate_callee (f := 40) rfl ?_); refine goesL_ (some 20) rfl rfl Try.func40 (by kernel_rfl) rfl #[.slice A0 l0.length c0] rfl (by (try simp only [List.map_toArray, List.map_cons, List.map_nil]); first | done | rfl | (simp only [List.length_drop, List.length_take]; rfl)) ?_; (with_reducible refine (satchellaw04_hand.calls _ _ l0 t460 _ ?side1 ?side2 A4.out).mono ?_); (case side1 => repeat (first | exact (Kd.C_below HR0.out HB.out) | (with_reducible refine Kd.C_alloc ?_ _) | (with_reducible refine Kd.C_drewN ?_ _) | (with_reducible refine Kd.C_drew ?_))); (case side2 => exact HC0.out); rintro e w18 ⟨v461, rfl, ho0, hb⟩; refine ⟨_, rfl, ?_⟩; have n0_ := Aside0.mk (Kd.R_lower ho0 (below_size (by repeat (first | (with_reducible first | exact HB.out | apply below_alloc | apply pw_below_drewN | apply below_drew1 | refine below_set ?_ GE459.out) | exact HB.out)))); have n1_ := Aside0.mk (blk_below (g := gb459) (o := .cells #[.int .i64 a1_0, .bool a1_1, .bool a1_2, .bool a1_3, .bool a1_4] 31 (0, 0)) (by (with_reducible repeat (first | refine blk_drewN ?_ _ | refine blk_drew ?_ | refine blk_alloc ?_ _)); exact BK459.out) hb); have n2_ := Aside0.mk (below_step (by repeat (first | (with_reducible first | exact HB.out | apply below_alloc | apply pw_below_drewN | apply below_drew1 | refine below_set ?_ GE459.out) | exact HB.out)) hb); clear BK459; clear HB; have HO462 := n0_; have BK459 := n1_; have HB := n2_; clear n0_ n1_ n2_; (try clear hb); (try clear hb2); (try clear hk); (try clear hi); (try clear ho0)))
      have n0_ := Aside0.mk (Kd.R_drew HO462.out)
      have n1_ := Aside0.mk (blk_drew BK459.out)
      have n2_ := Aside0.mk (below_drew1 HB.out)
      clear HO462
      clear BK459
      clear HB
      have HO462 := n0_
      have BK459 := n1_
      have HB := n2_
      clear n0_ n1_ n2_
      obtain ⟨Ao21, co21, eo21⟩ := Kd.R_slice HO462.out
      (first | subst eo21 | (injection eo21 with f1_ f2_ f3_; have f4_ := f1_.symm; have f5_ := f3_.symm; clear f1_ f2_ f3_; subst f4_; subst f5_))
      have q20 : ((l0.length : Int) : Int) ≤ ((t460.length : Int) : Int) := of_decide_eq_true (by first | (with_reducible assumption) | assumption)
      obtain ⟨i020, hi020, _, hsz20, _⟩ := info_parts info5
      have hroom20 : t460.length ≤ co21 := (Kd.R_reads' HO462.out).2.1
      have hC20 : Kd.C (Kd.int .u8) _ Ao21 t460.length t460 := (Kd.R_reads' HO462.out).2.2
      have hcut20 := cut_to (P := Try.prog) 22 5 .i64 Try.underlying22 hi020 Ao21 t460.length co21 (l0.length : Int) (of_decide_eq_true (by first | (with_reducible assumption) | assumption)) q20 hroom20
      have hr20 := Kd.C_take (m := ((l0.length : Int) : Int).toNat) hC20 (by omega)
      have hy20 : y463.length = ((l0.length : Int) : Int).toNat := (by rw [Ny463.out, List.length_take]; omega)
      rw [← Ny463.out] at hr20
      rw [← hy20] at hcut20
      have HR466 := Aside0.mk hr20
      have HC466 := Aside0.mk (show y463.length ≤ co21 from by omega)
      clear hr20 hC20 hroom20 hi020 hsz20
      have KY20 := Aside0.mk hy20
      clear hy20
      have KL20 := Aside0.mk (show ((l0.length : Int) : Int).toNat ≤ t460.length from by omega)
      replace q20 := eq_true q20
      refine start_ (n := 11) (S := fun w' => w'.cell? ⟨gb459, 0, none⟩ = some (.int .i64 a1_0) ∧ w'.cell? ⟨gb459, 1, none⟩ = some (.bool a1_1) ∧ w'.cell? ⟨gb459, 2, none⟩ = some (.bool a1_2) ∧ w'.cell? ⟨gb459, 3, none⟩ = some (.bool a1_3) ∧ w'.cell? ⟨gb459, 4, none⟩ = some (.bool a1_4)) (ds := []) #[false, false, false, false, false, false, false, false, false, false, false] (by kernel_rfl) rfl rfl ⟨(blk_cell BK459.out 0).trans rfl, (blk_cell BK459.out 1).trans rfl, (blk_cell BK459.out 2).trans rfl, (blk_cell BK459.out 3).trans rfl, (blk_cell BK459.out 4).trans rfl⟩ (fun hHeld => ?_); refine with_tabW satchellaw04_FrameEncodes.tab2 satchellaw04_FrameEncodes.bits2 (fun HT_ HW_ => ?_)
      generalize w18.drew = w19 at HO462 BK459 HB HR466 hHeld ⊢
      refine pure_ (i := 0) (N := some 22) (v := ?_) (a' := ?_) #[true, false, false, false, false, false, false, false, false, false, false] rfl rfl (any_of HT_.out (by kernel_rfl)) (fun _ _ _ h => h) (Or.inl ⟨by rfl, ?_⟩) ?_ ?_
      rotate_left
      · intro w'
        go_simp
        with_reducible rfl
      rotate_left
      · simp only [Act.put, List.setIfInBounds_toArray, List.set_cons_zero, List.set_cons_succ, i64_w, i32_w]
        rfl
      refine pure_ (i := 1) (N := some 23) (v := ?_) (a' := ?_) #[true, true, false, false, false, false, false, false, false, false, false] rfl rfl (any_of HT_.out (by kernel_rfl)) (fun _ _ _ h => h) (Or.inl ⟨by rfl, ?_⟩) ?_ ?_
      rotate_left
      · intro w'
        go_simp
        with_reducible rfl
      rotate_left
      · simp only [Act.put, List.setIfInBounds_toArray, List.set_cons_zero, List.set_cons_succ, i64_w, i32_w]
        rfl
      refine pure_ (i := 2) (N := some 24) (v := ?_) (a' := ?_) #[true, true, true, false, false, false, false, false, false, false, false] rfl rfl (any_of HT_.out (by kernel_rfl)) (fun _ _ _ h => h) (Or.inl ⟨by rfl, ?_⟩) ?_ ?_
      rotate_left
      · intro w'
        go_simp
        with_reducible rfl
      rotate_left
      · simp only [Act.put, List.setIfInBounds_toArray, List.set_cons_zero, List.set_cons_succ, i64_w, i32_w]
        rfl
      refine pure_ (i := 3) (N := some 25) (v := ?_) (a' := ?_) #[true, true, true, true, false, false, false, false, false, false, false] rfl rfl (any_of HT_.out (by kernel_rfl)) (fun _ _ _ h => h) (Or.inl ⟨by rfl, ?_⟩) ?_ ?_
      rotate_left
      · intro w'
        go_simp
        with_reducible rfl
      rotate_left
      · simp only [Act.put, List.setIfInBounds_toArray, List.set_cons_zero, List.set_cons_succ, i64_w, i32_w]
        rfl
      refine take_ (i := 4) (N := some 26) (v := ?_) (a' := ?_) #[true, true, true, true, true, false, false, false, false, false, false] rfl rfl (take_ofW HT_.out HW_.out (by kernel_rfl)) (fun _ _ _ h => h) (Or.inl ⟨by rfl, ?_⟩) hHeld ?_ ?_
      rotate_left
      · rintro w' ⟨s0, s1, s2, s3, s4⟩
        go_simp
        with_reducible rfl
      rotate_left
      · simp only [Act.put, List.setIfInBounds_toArray, List.set_cons_zero, List.set_cons_succ, i64_w, i32_w]
        rfl
      refine one_ (i := 5) (N := some 27) #[true, true, true, true, true, true, false, false, false, false, false] rfl rfl (one_of HT_.out (by kernel_rfl)) (by decide) (fun K hK => ?_)
      refine goes_ Try.func30 (by kernel_rfl) rfl #[.slice Ao21 y463.length co21, .agg #[.int .i64 a1_0, .bool a1_1, .bool a1_2, .bool a1_3, .bool a1_4]] (by rfl) rfl rfl (by (try simp only [List.map_toArray, List.map_cons, List.map_nil]); first | done | rfl | (simp only [List.length_drop, List.length_take]; rfl)) ?_
      with_reducible refine (frame_Encode.calls k _ _ y463 a1_0 a1_1 a1_2 a1_3 a1_4 t467 t470 _ ?side1 ?side2 A7.out).mono ?_
      (case side1 => repeat (first | exact (by repeat (first | (with_reducible exact HR466.out) | (with_reducible refine Kd.C_alloc ?_ _) | (with_reducible refine Kd.C_drewN ?_ _) | (with_reducible refine Kd.C_drew ?_) | exact HR466.out)) | (with_reducible refine Kd.C_alloc ?_ _) | (with_reducible refine Kd.C_drewN ?_ _) | (with_reducible refine Kd.C_drew ?_)))
      (case side2 => exact HC466.out)
      rintro e w22 ⟨v468, rfl, ho0, hb⟩
      refine ⟨_, rfl, ?_⟩
      have n0_ := Aside0.mk (Kd.R_elder' (by (with_reducible repeat (first | apply Kd.R_alloc | apply Kd.R_drewN | apply Kd.R_drew)); exact HO462.out) (Kd.R_base ho0) hb)
      have n1_ := Aside0.mk (Kd.R_lower (Kd.R_new' ho0 (Kd.R_lt (by (with_reducible repeat (first | apply Kd.R_alloc | apply Kd.R_drewN | apply Kd.R_drew)); exact HO462.out))) (below_size (by repeat (first | (with_reducible first | exact HB.out | apply below_alloc | apply pw_below_drewN | apply below_drew1 | refine below_set ?_ GE459.out) | exact HB.out))))
      have n2_ := Aside0.mk (blk_below (g := gb459) (o := .cells #[.int .i64 a1_0, .bool a1_1, .bool a1_2, .bool a1_3, .bool a1_4] 31 (0, 0)) (by (with_reducible repeat (first | refine blk_drewN ?_ _ | refine blk_drew ?_ | refine blk_alloc ?_ _)); exact BK459.out) hb)
      have n3_ := Aside0.mk (Kd.C_below (by repeat (first | (with_reducible exact HR466.out) | (with_reducible refine Kd.C_alloc ?_ _) | (with_reducible refine Kd.C_drewN ?_ _) | (with_reducible refine Kd.C_drew ?_) | exact HR466.out)) hb)
      have n4_ := Aside0.mk (below_step (by repeat (first | (with_reducible first | exact HB.out | apply below_alloc | apply pw_below_drewN | apply below_drew1 | refine below_set ?_ GE459.out) | exact HB.out)) hb)
      clear HO462
      clear BK459
      clear HR466
      clear HB
      have HO462 := n0_
      have HO469 := n1_
      have BK459 := n2_
      have HR466 := n3_
      have HB := n4_
      clear n0_ n1_ n2_ n3_ n4_
      (try clear hb)
      (try clear hb2)
      (try clear hk)
      (try clear hi)
      (try clear ho0)
      refine hK.out _ _ ⟨(blk_cell BK459.out 0).trans rfl, (blk_cell BK459.out 1).trans rfl, (blk_cell BK459.out 2).trans rfl, (blk_cell BK459.out 3).trans rfl, (blk_cell BK459.out 4).trans rfl⟩ (fun hHeld => ?_)
      clear hK K
      refine norm_ (a' := ?_) ?_ ?_
      rotate_left
      · show Act.put _ (some 27) _ = _
        simp only [Act.put, List.setIfInBounds_toArray, List.set_cons_zero, List.set_cons_succ, i64_w, i32_w]
        rfl
      refine pure_ (i := 6) (N := some 21) (v := ?_) (a' := ?_) #[true, true, true, true, true, true, true, false, false, false, false] rfl rfl (any_of HT_.out (by kernel_rfl)) (fun _ _ _ h => h) (Or.inl ⟨by rfl, ?_⟩) ?_ ?_
      rotate_left
      · intro w'
        go_simp
        with_reducible rfl
      rotate_left
      · simp only [Act.put, List.setIfInBounds_toArray, List.set_cons_zero, List.set_cons_succ, i64_w, i32_w]
        rfl
      refine pure_ (i := 7) (N := some 28) (v := ?_) (a' := ?_) #[true, true, true, true, true, true, true, true, false, false, false] rfl rfl (any_of HT_.out (by kernel_rfl)) (fun _ _ _ h => h) (Or.inl ⟨by rfl, ?_⟩) ?_ ?_
      rotate_left
      · intro w'
        go_simp
        with_reducible rfl
      rotate_left
      · simp only [Act.put, List.setIfInBounds_toArray, List.set_cons_zero, List.set_cons_succ, i64_w, i32_w]
        rfl
      refine pure_ (i := 8) (N := some 29) (v := ?_) (a' := ?_) #[true, true, true, true, true, true, true, true, true, false, false] rfl rfl (any_of HT_.out (by kernel_rfl)) (fun _ _ _ h => h) (Or.inl ⟨by rfl, ?_⟩) ?_ ?_
      rotate_left
      · intro w'
        go_simp
        with_reducible rfl
      rotate_left
      · simp only [Act.put, List.setIfInBounds_toArray, List.set_cons_zero, List.set_cons_succ, i64_w, i32_w]
        rfl
      refine pure_ (i := 9) (N := some 8) (v := ?_) (a' := ?_) #[true, true, true, true, true, true, true, true, true, true, false] rfl rfl (any_of HT_.out (by kernel_rfl)) (fun _ _ _ h => h) (Or.inl ⟨by rfl, ?_⟩) ?_ ?_
      rotate_left
      · intro w'
        go_simp
        with_reducible rfl
      rotate_left
      · simp only [Act.put, List.setIfInBounds_toArray, List.set_cons_zero, List.set_cons_succ, i64_w, i32_w]
        rfl
      refine pure_ (i := 10) (N := some 9) (v := ?_) (a' := ?_) #[true, true, true, true, true, true, true, true, true, true, true] rfl rfl (any_of HT_.out (by kernel_rfl)) (fun _ _ _ h => h) (Or.inl ⟨by rfl, ?_⟩) ?_ ?_
      rotate_left
      · intro w'
        go_simp
        with_reducible rfl
      rotate_left
      · simp only [Act.put, List.setIfInBounds_toArray, List.set_cons_zero, List.set_cons_succ, i64_w, i32_w]
        rfl
      refine done_ (done_of HT_.out (by kernel_rfl)) ?_
      try go_wp2
      have n0_ := Aside0.mk (Kd.R_drew HO462.out)
      have n1_ := Aside0.mk (Kd.R_drew HO469.out)
      have n2_ := Aside0.mk (blk_drew BK459.out)
      have n3_ := Aside0.mk (Kd.C_drew HR466.out)
      have n4_ := Aside0.mk (below_drew1 HB.out)
      clear HO462
      clear HO469
      clear BK459
      clear HR466
      clear HB
      have HO462 := n0_
      have HO469 := n1_
      have BK459 := n2_
      have HR466 := n3_
      have HB := n4_
      clear n0_ n1_ n2_ n3_ n4_
      clear hcut20
      have q24 : ((l0.length : Int) : Int) ≤ ((t460.length : Int) : Int) := of_decide_eq_true (by first | (with_reducible assumption) | assumption)
      obtain ⟨i024, hi024, _, hsz24, _⟩ := info_parts info5
      have hroom24 : t460.length ≤ co21 := (Kd.R_reads' HO462.out).2.1
      have hC24 : Kd.C (Kd.int .u8) _ Ao21 t460.length t460 := (Kd.R_reads' HO462.out).2.2
      have hcut24 := cut_to (P := Try.prog) 22 5 .i64 Try.underlying22 hi024 Ao21 t460.length co21 (l0.length : Int) (of_decide_eq_true (by first | (with_reducible assumption) | assumption)) q24 hroom24
      have hr24 := Kd.C_take (m := ((l0.length : Int) : Int).toNat) hC24 (by omega)
      have hy24 : y471.length = ((l0.length : Int) : Int).toNat := (by rw [Ny471.out, List.length_take]; omega)
      rw [← Ny471.out] at hr24
      rw [← hy24] at hcut24
      have HR474 := Aside0.mk hr24
      have HC474 := Aside0.mk (show y471.length ≤ co21 from by omega)
      clear hr24 hC24 hroom24 hi024 hsz24
      have KY24 := Aside0.mk hy24
      clear hy24
      have KL24 := Aside0.mk (show ((l0.length : Int) : Int).toNat ≤ t460.length from by omega)
      replace q24 := eq_true q24
      refine start_ (n := 11) (S := fun w' => w'.cell? ⟨gb459, 0, none⟩ = some (.int .i64 a1_0) ∧ w'.cell? ⟨gb459, 1, none⟩ = some (.bool a1_1) ∧ w'.cell? ⟨gb459, 2, none⟩ = some (.bool a1_2) ∧ w'.cell? ⟨gb459, 3, none⟩ = some (.bool a1_3) ∧ w'.cell? ⟨gb459, 4, none⟩ = some (.bool a1_4)) (ds := []) #[false, false, false, false, false, false, false, false, false, false, false] (by kernel_rfl) rfl rfl ⟨(blk_cell BK459.out 0).trans rfl, (blk_cell BK459.out 1).trans rfl, (blk_cell BK459.out 2).trans rfl, (blk_cell BK459.out 3).trans rfl, (blk_cell BK459.out 4).trans rfl⟩ (fun hHeld => ?_); refine with_tabW satchellaw04_FrameEncodes.tab3 satchellaw04_FrameEncodes.bits3 (fun HT_ HW_ => ?_)
      generalize w22.drew = w23 at HO462 HO469 BK459 HR466 HB HR474 hHeld ⊢
      refine pure_ (i := 0) (N := some 31) (v := ?_) (a' := ?_) #[true, false, false, false, false, false, false, false, false, false, false] rfl rfl (any_of HT_.out (by kernel_rfl)) (fun _ _ _ h => h) (Or.inl ⟨by rfl, ?_⟩) ?_ ?_
      rotate_left
      · intro w'
        go_simp
        with_reducible rfl
      rotate_left
      · simp only [Act.put, List.setIfInBounds_toArray, List.set_cons_zero, List.set_cons_succ, i64_w, i32_w]
        rfl
      refine pure_ (i := 1) (N := some 32) (v := ?_) (a' := ?_) #[true, true, false, false, false, false, false, false, false, false, false] rfl rfl (any_of HT_.out (by kernel_rfl)) (fun _ _ _ h => h) (Or.inl ⟨by rfl, ?_⟩) ?_ ?_
      rotate_left
      · intro w'
        go_simp
        with_reducible rfl
      rotate_left
      · simp only [Act.put, List.setIfInBounds_toArray, List.set_cons_zero, List.set_cons_succ, i64_w, i32_w]
        rfl
      refine pure_ (i := 2) (N := some 33) (v := ?_) (a' := ?_) #[true, true, true, false, false, false, false, false, false, false, false] rfl rfl (any_of HT_.out (by kernel_rfl)) (fun _ _ _ h => h) (Or.inl ⟨by rfl, ?_⟩) ?_ ?_
      rotate_left
      · intro w'
        go_simp
        with_reducible rfl
      rotate_left
      · simp only [Act.put, List.setIfInBounds_toArray, List.set_cons_zero, List.set_cons_succ, i64_w, i32_w]
        rfl
      refine pure_ (i := 3) (N := some 34) (v := ?_) (a' := ?_) #[true, true, true, true, false, false, false, false, false, false, false] rfl rfl (any_of HT_.out (by kernel_rfl)) (fun _ _ _ h => h) (Or.inl ⟨by rfl, ?_⟩) ?_ ?_
      rotate_left
      · intro w'
        go_simp
        with_reducible rfl
      rotate_left
      · simp only [Act.put, List.setIfInBounds_toArray, List.set_cons_zero, List.set_cons_succ, i64_w, i32_w]
        rfl
      refine take_ (i := 4) (N := some 35) (v := ?_) (a' := ?_) #[true, true, true, true, true, false, false, false, false, false, false] rfl rfl (take_ofW HT_.out HW_.out (by kernel_rfl)) (fun _ _ _ h => h) (Or.inl ⟨by rfl, ?_⟩) hHeld ?_ ?_
      rotate_left
      · rintro w' ⟨s0, s1, s2, s3, s4⟩
        go_simp
        with_reducible rfl
      rotate_left
      · simp only [Act.put, List.setIfInBounds_toArray, List.set_cons_zero, List.set_cons_succ, i64_w, i32_w]
        rfl
      refine one_ (i := 5) (N := some 36) #[true, true, true, true, true, true, false, false, false, false, false] rfl rfl (one_of HT_.out (by kernel_rfl)) (by decide) (fun K hK => ?_)
      refine goes_ Try.func30 (by kernel_rfl) rfl #[.slice Ao21 y471.length co21, .agg #[.int .i64 a1_0, .bool a1_1, .bool a1_2, .bool a1_3, .bool a1_4]] (by rfl) rfl rfl (by (try simp only [List.map_toArray, List.map_cons, List.map_nil]); first | done | rfl | (simp only [List.length_drop, List.length_take]; rfl)) ?_
      with_reducible refine (frame_Encode.calls k _ _ y471 a1_0 a1_1 a1_2 a1_3 a1_4 t475 t478 _ ?side1 ?side2 A10.out).mono ?_
      (case side1 => repeat (first | exact (by repeat (first | (with_reducible exact HR474.out) | (with_reducible refine Kd.C_alloc ?_ _) | (with_reducible refine Kd.C_drewN ?_ _) | (with_reducible refine Kd.C_drew ?_) | exact HR474.out)) | (with_reducible refine Kd.C_alloc ?_ _) | (with_reducible refine Kd.C_drewN ?_ _) | (with_reducible refine Kd.C_drew ?_)))
      (case side2 => exact HC474.out)
      rintro e w25 ⟨v476, rfl, ho0, hb⟩
      refine ⟨_, rfl, ?_⟩
      have n0_ := Aside0.mk (Kd.R_elder' (by (with_reducible repeat (first | apply Kd.R_alloc | apply Kd.R_drewN | apply Kd.R_drew)); exact HO462.out) (Kd.R_base ho0) hb)
      have n1_ := Aside0.mk (Kd.R_elder' (by (with_reducible repeat (first | apply Kd.R_alloc | apply Kd.R_drewN | apply Kd.R_drew)); exact HO469.out) (Kd.R_base ho0) hb)
      have n2_ := Aside0.mk (Kd.R_lower (Kd.R_new' (Kd.R_new' ho0 (Kd.R_lt (by (with_reducible repeat (first | apply Kd.R_alloc | apply Kd.R_drewN | apply Kd.R_drew)); exact HO462.out))) (Kd.R_lt (by (with_reducible repeat (first | apply Kd.R_alloc | apply Kd.R_drewN | apply Kd.R_drew)); exact HO469.out))) (below_size (by repeat (first | (with_reducible first | exact HB.out | apply below_alloc | apply pw_below_drewN | apply below_drew1 | refine below_set ?_ GE459.out) | exact HB.out))))
      have n3_ := Aside0.mk (blk_below (g := gb459) (o := .cells #[.int .i64 a1_0, .bool a1_1, .bool a1_2, .bool a1_3, .bool a1_4] 31 (0, 0)) (by (with_reducible repeat (first | refine blk_drewN ?_ _ | refine blk_drew ?_ | refine blk_alloc ?_ _)); exact BK459.out) hb)
      have n4_ := Aside0.mk (Kd.C_below (by repeat (first | (with_reducible exact HR466.out) | (with_reducible refine Kd.C_alloc ?_ _) | (with_reducible refine Kd.C_drewN ?_ _) | (with_reducible refine Kd.C_drew ?_) | exact HR466.out)) hb)
      have n5_ := Aside0.mk (Kd.C_below (by repeat (first | (with_reducible exact HR474.out) | (with_reducible refine Kd.C_alloc ?_ _) | (with_reducible refine Kd.C_drewN ?_ _) | (with_reducible refine Kd.C_drew ?_) | exact HR474.out)) hb)
      have n6_ := Aside0.mk (below_step (by repeat (first | (with_reducible first | exact HB.out | apply below_alloc | apply pw_below_drewN | apply below_drew1 | refine below_set ?_ GE459.out) | exact HB.out)) hb)
      clear HO462
      clear HO469
      clear BK459
      clear HR466
      clear HR474
      clear HB
      have HO462 := n0_
      have HO469 := n1_
      have HO477 := n2_
      have BK459 := n3_
      have HR466 := n4_
      have HR474 := n5_
      have HB := n6_
      clear n0_ n1_ n2_ n3_ n4_ n5_ n6_
      (try clear hb)
      (try clear hb2)
      (try clear hk)
      (try clear hi)
      (try clear ho0)
      refine hK.out _ _ ⟨(blk_cell BK459.out 0).trans rfl, (blk_cell BK459.out 1).trans rfl, (blk_cell BK459.out 2).trans rfl, (blk_cell BK459.out 3).trans rfl, (blk_cell BK459.out 4).trans rfl⟩ (fun hHeld => ?_)
      clear hK K
      refine norm_ (a' := ?_) ?_ ?_
      rotate_left
      · show Act.put _ (some 36) _ = _
        simp only [Act.put, List.setIfInBounds_toArray, List.set_cons_zero, List.set_cons_succ, i64_w, i32_w]
        rfl
      refine pure_ (i := 6) (N := some 30) (v := ?_) (a' := ?_) #[true, true, true, true, true, true, true, false, false, false, false] rfl rfl (any_of HT_.out (by kernel_rfl)) (fun _ _ _ h => h) (Or.inl ⟨by rfl, ?_⟩) ?_ ?_
      rotate_left
      · intro w'
        go_simp
        with_reducible rfl
      rotate_left
      · simp only [Act.put, List.setIfInBounds_toArray, List.set_cons_zero, List.set_cons_succ, i64_w, i32_w]
        rfl
      refine pure_ (i := 7) (N := some 37) (v := ?_) (a' := ?_) #[true, true, true, true, true, true, true, true, false, false, false] rfl rfl (any_of HT_.out (by kernel_rfl)) (fun _ _ _ h => h) (Or.inl ⟨by rfl, ?_⟩) ?_ ?_
      rotate_left
      · intro w'
        go_simp
        with_reducible rfl
      rotate_left
      · simp only [Act.put, List.setIfInBounds_toArray, List.set_cons_zero, List.set_cons_succ, i64_w, i32_w]
        rfl
      refine pure_ (i := 8) (N := some 38) (v := ?_) (a' := ?_) #[true, true, true, true, true, true, true, true, true, false, false] rfl rfl (any_of HT_.out (by kernel_rfl)) (fun _ _ _ h => h) (Or.inl ⟨by rfl, ?_⟩) ?_ ?_
      rotate_left
      · intro w'
        go_simp
        with_reducible rfl
      rotate_left
      · simp only [Act.put, List.setIfInBounds_toArray, List.set_cons_zero, List.set_cons_succ, i64_w, i32_w]
        rfl
      refine pure_ (i := 9) (N := some 10) (v := ?_) (a' := ?_) #[true, true, true, true, true, true, true, true, true, true, false] rfl rfl (any_of HT_.out (by kernel_rfl)) (fun _ _ _ h => h) (Or.inl ⟨by rfl, ?_⟩) ?_ ?_
      rotate_left
      · intro w'
        go_simp
        with_reducible rfl
      rotate_left
      · simp only [Act.put, List.setIfInBounds_toArray, List.set_cons_zero, List.set_cons_succ, i64_w, i32_w]
        rfl
      refine pure_ (i := 10) (N := some 11) (v := ?_) (a' := ?_) #[true, true, true, true, true, true, true, true, true, true, true] rfl rfl (any_of HT_.out (by kernel_rfl)) (fun _ _ _ h => h) (Or.inl ⟨by rfl, ?_⟩) ?_ ?_
      rotate_left
      · intro w'
        go_simp
        with_reducible rfl
      rotate_left
      · simp only [Act.put, List.setIfInBounds_toArray, List.set_cons_zero, List.set_cons_succ, i64_w, i32_w]
        rfl
      refine done_ (done_of HT_.out (by kernel_rfl)) ?_
      clear hcut24
      have hcz26_0 : w25.cell? ⟨gb459, 0, none⟩ = some (.int .i64 a1_0) := (blk_cell BK459.out 0).trans rfl
      have hcz26_1 : w25.cell? ⟨gb459, 1, none⟩ = some (.bool a1_1) := (blk_cell BK459.out 1).trans rfl
      have hcz26_2 : w25.cell? ⟨gb459, 2, none⟩ = some (.bool a1_2) := (blk_cell BK459.out 2).trans rfl
      have hcz26_3 : w25.cell? ⟨gb459, 3, none⟩ = some (.bool a1_3) := (blk_cell BK459.out 3).trans rfl
      have hcz26_4 : w25.cell? ⟨gb459, 4, none⟩ = some (.bool a1_4) := (blk_cell BK459.out 4).trans rfl
      have hfz26_0 := blk_frozen BK459.out 0
      have hfz26_1 := blk_frozen BK459.out 1
      have hfz26_2 := blk_frozen BK459.out 2
      have hfz26_3 := blk_frozen BK459.out 3
      have hfz26_4 := blk_frozen BK459.out 4
      go_upto_region 7 with (first | ((with_reducible refine gate_callee (f := 41) rfl ?_); refine goesL_ (some 42) rfl rfl Try.func41 (by kernel_rfl) rfl #[.slice A0 l0.length c0, .agg #[.int .i64 a1_0, .bool a1_1, .bool a1_2, .bool a1_3, .bool a1_4]] rfl (by (try simp only [List.map_toArray, List.map_cons, List.map_nil]); first | done | rfl | (simp only [List.length_drop, List.length_take]; rfl)) ?_; (with_reducible refine (satchellaw04_laid.calls k _ _ l0 a1_0 a1_1 a1_2 a1_3 a1_4 t479 t482 _ ?side1 ?side2 A11.out).mono ?_); (case side1 => repeat (first | exact (Kd.C_below HR0.out HB.out) | (with_reducible refine Kd.C_alloc ?_ _) | (with_reducible refine Kd.C_drewN ?_ _) | (with_reducible refine Kd.C_drew ?_))); (case side2 => exact HC0.out); rintro e w27 ⟨v480, rfl, ho0, hb⟩; refine ⟨_, rfl, ?_⟩; have n0_ := Aside0.mk (Kd.R_elder' (by (with_reducible repeat (first | apply Kd.R_alloc | apply Kd.R_drewN | apply Kd.R_drew)); exact HO462.out) (Kd.R_base ho0) hb); have n1_ := Aside0.mk (Kd.R_elder' (by (with_reducible repeat (first | apply Kd.R_alloc | apply Kd.R_drewN | apply Kd.R_drew)); exact HO469.out) (Kd.R_base ho0) hb); have n2_ := Aside0.mk (Kd.R_elder' (by (with_reducible repeat (first | apply Kd.R_alloc | apply Kd.R_drewN | apply Kd.R_drew)); exact HO477.out) (Kd.R_base ho0) hb); have n3_ := Aside0.mk (Kd.R_lower (Kd.R_new' (Kd.R_new' (Kd.R_new' ho0 (Kd.R_lt (by (with_reducible repeat (first | apply Kd.R_alloc | apply Kd.R_drewN | apply Kd.R_drew)); exact HO462.out))) (Kd.R_lt (by (with_reducible repeat (first | apply Kd.R_alloc | apply Kd.R_drewN | apply Kd.R_drew)); exact HO469.out))) (Kd.R_lt (by (with_reducible repeat (first | apply Kd.R_alloc | apply Kd.R_drewN | apply Kd.R_drew)); exact HO477.out))) (below_size (by repeat (first | (with_reducible first | exact HB.out | apply below_alloc | apply pw_below_drewN | apply below_drew1 | refine below_set ?_ GE459.out) | exact HB.out)))); have n4_ := Aside0.mk (blk_below (g := gb459) (o := .cells #[.int .i64 a1_0, .bool a1_1, .bool a1_2, .bool a1_3, .bool a1_4] 31 (0, 0)) (by (with_reducible repeat (first | refine blk_drewN ?_ _ | refine blk_drew ?_ | refine blk_alloc ?_ _)); exact BK459.out) hb); have n5_ := Aside0.mk (Kd.C_below (by repeat (first | (with_reducible exact HR466.out) | (with_reducible refine Kd.C_alloc ?_ _) | (with_reducible refine Kd.C_drewN ?_ _) | (with_reducible refine Kd.C_drew ?_) | exact HR466.out)) hb); have n6_ := Aside0.mk (Kd.C_below (by repeat (first | (with_reducible exact HR474.out) | (with_reducible refine Kd.C_alloc ?_ _) | (with_reducible refine Kd.C_drewN ?_ _) | (with_reducible refine Kd.C_drew ?_) | exact HR474.out)) hb); have n7_ := Aside0.mk (below_step (by repeat (first | (with_reducible first | exact HB.out | apply below_alloc | apply pw_below_drewN | apply below_drew1 | refine below_set ?_ GE459.out) | exact HB.out)) hb); clear HO462; clear HO469; clear HO477; clear BK459; clear HR466; clear HR474; clear HB; have HO462 := n0_; have HO469 := n1_; have HO477 := n2_; have HO481 := n3_; have BK459 := n4_; have HR466 := n5_; have HR474 := n6_; have HB := n7_; clear n0_ n1_ n2_ n3_ n4_ n5_ n6_ n7_; (try clear hb); (try clear hb2); (try clear hk); (try clear hi); (try clear ho0); have q28 : ((l0.length : Int) : Int) ≤ ((t460.length : Int) : Int) := of_decide_eq_true (by first | (with_reducible assumption) | assumption); obtain ⟨i028, hi028, _, hsz28, _⟩ := info_parts info5; have hroom28 : t460.length ≤ co21 := (Kd.R_reads' HO462.out).2.1; have hC28 : Kd.C (Kd.int .u8) _ Ao21 t460.length t460 := (Kd.R_reads' HO462.out).2.2; have hcut28 := cut_to (P := Try.prog) 22 5 .i64 Try.underlying22 hi028 Ao21 t460.length co21 (l0.length : Int) (of_decide_eq_true (by first | (with_reducible assumption) | assumption)) q28 hroom28; have hr28 := Kd.C_take (m := ((l0.length : Int) : Int).toNat) hC28 (by omega); have hy28 : y483.length = ((l0.length : Int) : Int).toNat := (by rw [Ny483.out, List.length_take]; omega); rw [← Ny483.out] at hr28; rw [← hy28] at hcut28; have HR486 := Aside0.mk hr28; have HC486 := Aside0.mk (show y483.length ≤ co21 from by omega); clear hr28 hC28 hroom28 hi028 hsz28; have KY28 := Aside0.mk hy28; clear hy28; have KL28 := Aside0.mk (show ((l0.length : Int) : Int).toNat ≤ t460.length from by omega); replace q28 := eq_true q28) | ((with_reducible refine gate_callee (f := 29) rfl ?_); refine goesL_ (some 51) rfl rfl Try.func29 (by kernel_rfl) rfl #[.int .i64 a2, .slice Ao21 y483.length co21] rfl (by (try simp only [List.map_toArray, List.map_cons, List.map_nil]); first | done | rfl | (simp only [List.length_drop, List.length_take]; rfl)) ?_; (with_reducible refine (frame_Skip.calls k a2 _ _ y483 t487 t488 _ ?side1 ?side2 A14.out).mono ?_); (case side1 => repeat (first | exact (by repeat (first | (with_reducible exact HR486.out) | (with_reducible refine Kd.C_alloc ?_ _) | (with_reducible refine Kd.C_drewN ?_ _) | (with_reducible refine Kd.C_drew ?_) | exact HR486.out)) | (with_reducible refine Kd.C_alloc ?_ _) | (with_reducible refine Kd.C_drewN ?_ _) | (with_reducible refine Kd.C_drew ?_))); (case side2 => exact HC486.out); rintro e w29 ⟨v489, rfl, ho0, hb⟩; refine ⟨_, rfl, ?_⟩; have n0_ := Aside0.mk (Kd.R_elder' (by (with_reducible repeat (first | apply Kd.R_alloc | apply Kd.R_drewN | apply Kd.R_drew)); exact HO462.out) (Kd.R_base ho0) hb); have n1_ := Aside0.mk (Kd.R_elder' (by (with_reducible repeat (first | apply Kd.R_alloc | apply Kd.R_drewN | apply Kd.R_drew)); exact HO469.out) (Kd.R_base ho0) hb); have n2_ := Aside0.mk (Kd.R_elder' (by (with_reducible repeat (first | apply Kd.R_alloc | apply Kd.R_drewN | apply Kd.R_drew)); exact HO477.out) (Kd.R_base ho0) hb); have n3_ := Aside0.mk (Kd.R_elder' (by (with_reducible repeat (first | apply Kd.R_alloc | apply Kd.R_drewN | apply Kd.R_drew)); exact HO481.out) (Kd.R_base ho0) hb); have n4_ := Aside0.mk (Kd.R_lower (Kd.R_new' (Kd.R_new' (Kd.R_new' (Kd.R_new' ho0 (Kd.R_lt (by (with_reducible repeat (first | apply Kd.R_alloc | apply Kd.R_drewN | apply Kd.R_drew)); exact HO462.out))) (Kd.R_lt (by (with_reducible repeat (first | apply Kd.R_alloc | apply Kd.R_drewN | apply Kd.R_drew)); exact HO469.out))) (Kd.R_lt (by (with_reducible repeat (first | apply Kd.R_alloc | apply Kd.R_drewN | apply Kd.R_drew)); exact HO477.out))) (Kd.R_lt (by (with_reducible repeat (first | apply Kd.R_alloc | apply Kd.R_drewN | apply Kd.R_drew)); exact HO481.out))) (below_size (by repeat (first | (with_reducible first | exact HB.out | apply below_alloc | apply pw_below_drewN | apply below_drew1 | refine below_set ?_ GE459.out) | exact HB.out)))); have n5_ := Aside0.mk (blk_below (g := gb459) (o := .cells #[.int .i64 a1_0, .bool a1_1, .bool a1_2, .bool a1_3, .bool a1_4] 31 (0, 0)) (by (with_reducible repeat (first | refine blk_drewN ?_ _ | refine blk_drew ?_ | refine blk_alloc ?_ _)); exact BK459.out) hb); have n6_ := Aside0.mk (Kd.C_below (by repeat (first | (with_reducible exact HR466.out) | (with_reducible refine Kd.C_alloc ?_ _) | (with_reducible refine Kd.C_drewN ?_ _) | (with_reducible refine Kd.C_drew ?_) | exact HR466.out)) hb); have n7_ := Aside0.mk (Kd.C_below (by repeat (first | (with_reducible exact HR474.out) | (with_reducible refine Kd.C_alloc ?_ _) | (with_reducible refine Kd.C_drewN ?_ _) | (with_reducible refine Kd.C_drew ?_) | exact HR474.out)) hb); have n8_ := Aside0.mk (Kd.C_below (by repeat (first | (with_reducible exact HR486.out) | (with_reducible refine Kd.C_alloc ?_ _) | (with_reducible refine Kd.C_drewN ?_ _) | (with_reducible refine Kd.C_drew ?_) | exact HR486.out)) hb); have n9_ := Aside0.mk (below_step (by repeat (first | (with_reducible first | exact HB.out | apply below_alloc | apply pw_below_drewN | apply below_drew1 | refine below_set ?_ GE459.out) | exact HB.out)) hb); clear HO462; clear HO469; clear HO477; clear HO481; clear BK459; clear HR466; clear HR474; clear HR486; clear HB; have HO462 := n0_; have HO469 := n1_; have HO477 := n2_; have HO481 := n3_; have HO490 := n4_; have BK459 := n5_; have HR466 := n6_; have HR474 := n7_; have HR486 := n8_; have HB := n9_; clear n0_ n1_ n2_ n3_ n4_ n5_ n6_ n7_ n8_ n9_; (try clear hb); (try clear hb2); (try clear hk); (try clear hi); (try clear ho0)) | ((with_reducible refine gate_callee (f := 42) rfl ?_); refine goesL_ (some 57) rfl rfl Try.func42 (by kernel_rfl) rfl #[.int .i64 a2, .slice A0 l0.length c0] rfl (by (try simp only [List.map_toArray, List.map_cons, List.map_nil]); first | done | rfl | (simp only [List.length_drop, List.length_take]; rfl)) ?_; (with_reducible refine (satchelref04_Skip.calls k a2 _ _ l0 t491 t492 _ ?side1 ?side2 A15.out).mono ?_); (case side1 => repeat (first | exact (Kd.C_below HR0.out HB.out) | (with_reducible refine Kd.C_alloc ?_ _) | (with_reducible refine Kd.C_drewN ?_ _) | (with_reducible refine Kd.C_drew ?_))); (case side2 => exact HC0.out); rintro e w30 ⟨v493, rfl, ho0, hb⟩; refine ⟨_, rfl, ?_⟩; have n0_ := Aside0.mk (Kd.R_elder' (by (with_reducible repeat (first | apply Kd.R_alloc | apply Kd.R_drewN | apply Kd.R_drew)); exact HO462.out) (Kd.R_base ho0) hb); have n1_ := Aside0.mk (Kd.R_elder' (by (with_reducible repeat (first | apply Kd.R_alloc | apply Kd.R_drewN | apply Kd.R_drew)); exact HO469.out) (Kd.R_base ho0) hb); have n2_ := Aside0.mk (Kd.R_elder' (by (with_reducible repeat (first | apply Kd.R_alloc | apply Kd.R_drewN | apply Kd.R_drew)); exact HO477.out) (Kd.R_base ho0) hb); have n3_ := Aside0.mk (Kd.R_elder' (by (with_reducible repeat (first | apply Kd.R_alloc | apply Kd.R_drewN | apply Kd.R_drew)); exact HO481.out) (Kd.R_base ho0) hb); have n4_ := Aside0.mk (Kd.R_elder' (by (with_reducible repeat (first | apply Kd.R_alloc | apply Kd.R_drewN | apply Kd.R_drew)); exact HO490.out) (Kd.R_base ho0) hb); have n5_ := Aside0.mk (Kd.R_lower (Kd.R_new' (Kd.R_new' (Kd.R_new' (Kd.R_new' (Kd.R_new' ho0 (Kd.R_lt (by (with_reducible repeat (first | apply Kd.R_alloc | apply Kd.R_drewN | apply Kd.R_drew)); exact HO462.out))) (Kd.R_lt (by (with_reducible repeat (first | apply Kd.R_alloc | apply Kd.R_drewN | apply Kd.R_drew)); exact HO469.out))) (Kd.R_lt (by (with_reducible repeat (first | apply Kd.R_alloc | apply Kd.R_drewN | apply Kd.R_drew)); exact HO477.out))) (Kd.R_lt (by (with_reducible repeat (first | apply Kd.R_alloc | apply Kd.R_drewN | apply Kd.R_drew)); exact HO481.out))) (Kd.R_lt (by (with_reducible repeat (first | apply Kd.R_alloc | apply Kd.R_drewN | apply Kd.R_drew)); exact HO490.out))) (below_size (by repeat (first | (with_reducible first | exact HB.out | apply below_alloc | apply pw_below_drewN | apply below_drew1 | refine below_set ?_ GE459.out) | exact HB.out)))); have n6_ := Aside0.mk (blk_below (g := gb459) (o := .cells #[.int .i64 a1_0, .bool a1_1, .bool a1_2, .bool a1_3, .bool a1_4] 31 (0, 0)) (by (with_reducible repeat (first | refine blk_drewN ?_ _ | refine blk_drew ?_ | refine blk_alloc ?_ _)); exact BK459.out) hb); have n7_ := Aside0.mk (Kd.C_below (by repeat (first | (with_reducible exact HR466.out) | (with_reducible refine Kd.C_alloc ?_ _) | (with_reducible refine Kd.C_drewN ?_ _) | (with_reducible refine Kd.C_drew ?_) | exact HR466.out)) hb); have n8_ := Aside0.mk (Kd.C_below (by repeat (first | (with_reducible exact HR474.out) | (with_reducible refine Kd.C_alloc ?_ _) | (with_reducible refine Kd.C_drewN ?_ _) | (with_reducible refine Kd.C_drew ?_) | exact HR474.out)) hb); have n9_ := Aside0.mk (Kd.C_below (by repeat (first | (with_reducible exact HR486.out) | (with_reducible refine Kd.C_alloc ?_ _) | (with_reducible refine Kd.C_drewN ?_ _) | (with_reducible refine Kd.C_drew ?_) | exact HR486.out)) hb); have n10_ := Aside0.mk (below_step (by repeat (first | (with_reducible first | exact HB.out | apply below_alloc | apply pw_below_drewN | apply below_drew1 | refine below_set ?_ GE459.out) | exact HB.out)) hb); clear HO462; clear HO469; clear HO477; clear HO481; clear HO490; clear BK459; clear HR466; clear HR474; clear HR486; clear HB; have HO462 := n0_; have HO469 := n1_; have HO477 := n2_; have HO481 := n3_; have HO490 := n4_; have HO494 := n5_; have BK459 := n6_; have HR466 := n7_; have HR474 := n8_; have HR486 := n9_; have HB := n10_; clear n0_ n1_ n2_ n3_ n4_ n5_ n6_ n7_ n8_ n9_ n10_; (try clear hb); (try clear hb2); (try clear hk); (try clear hi); (try clear ho0)))
      (try simp only [Act.put, List.setIfInBounds_toArray, List.set_cons_zero, List.set_cons_succ])
      go_cut [87] (fun v87 wc => ∃ (kq : Nat) (x87_15 : Bool), v87 = .bool x87_15 ∧ Aside0 (satchellaw04_FrameEncodes.j0 kq t467 t475 t479 t487 t491 x87_15 = some r) ∧ Aside0 (kq ≤ k) ∧ Aside0 (Kd.R (Kd.int .u8) 5 wc w.heap.size (fun k_ => some k_ ≠ (v476 : Value).ownBlock ∧ some k_ ≠ (v480 : Value).ownBlock ∧ some k_ ≠ (v489 : Value).ownBlock ∧ some k_ ≠ (v493 : Value).ownBlock) v468 t467) ∧ Aside0 (Kd.R (Kd.int .u8) 5 wc w.heap.size (fun k_ => some k_ ≠ (v468 : Value).ownBlock ∧ some k_ ≠ (v480 : Value).ownBlock ∧ some k_ ≠ (v489 : Value).ownBlock ∧ some k_ ≠ (v493 : Value).ownBlock) v476 t475) ∧ Aside0 (Kd.R (Kd.int .u8) 5 wc w.heap.size (fun k_ => some k_ ≠ (v468 : Value).ownBlock ∧ some k_ ≠ (v476 : Value).ownBlock ∧ some k_ ≠ (v489 : Value).ownBlock ∧ some k_ ≠ (v493 : Value).ownBlock) v480 t479) ∧ Aside0 (Kd.R (Kd.int .u8) 5 wc w.heap.size (fun k_ => some k_ ≠ (v468 : Value).ownBlock ∧ some k_ ≠ (v476 : Value).ownBlock ∧ some k_ ≠ (v480 : Value).ownBlock ∧ some k_ ≠ (v493 : Value).ownBlock) v489 t487) ∧ Aside0 (Kd.R (Kd.int .u8) 5 wc w.heap.size (fun k_ => some k_ ≠ (v468 : Value).ownBlock ∧ some k_ ≠ (v476 : Value).ownBlock ∧ some k_ ≠ (v480 : Value).ownBlock ∧ some k_ ≠ (v489 : Value).ownBlock) v493 t491) ∧ Aside0 (wc.heap[gb459]? = some (.cells #[.int .i64 a1_0, .bool a1_1, .bool a1_2, .bool a1_3, .bool a1_4] 31 (0, 0))) ∧ Aside0 (Below w.heap.size w wc))
      case first =>
        have H := HC16.out
        clear HC16
        by_cases c31 : t470 = t482
        · rw [if_pos c31] at H
          have c31b0 : (t470 == t482) = true := beq_iff_eq.mpr c31
          have c31b1 : (t470 != t482) = false := bne_eq_false_iff_eq.mpr c31
          clear c31
          (first | rw [c31b0] | (simp only [i64_w, i32_w]; rw [c31b0]) | skip)
          by_cases c32 : t488 = t492
          · rw [if_pos c32] at H
            have c32b0 : (t488 == t492) = true := beq_iff_eq.mpr c32
            have c32b1 : (t488 != t492) = false := bne_eq_false_iff_eq.mpr c32
            clear c32
            by_cases c33 : (strOfNums t467).toList = (strOfNums t479).toList
            · rw [if_pos c33] at H
              have c33b0 : ((strOfNums t467).toList == (strOfNums t479).toList) = true := beq_iff_eq.mpr c33
              have c33b1 : ((strOfNums t467).toList != (strOfNums t479).toList) = false := bne_eq_false_iff_eq.mpr c33
              clear c33
              by_cases c34 : (strOfNums t487).toList = (strOfNums t491).toList
              · rw [if_pos c34] at H
                have c34b0 : ((strOfNums t487).toList == (strOfNums t491).toList) = true := beq_iff_eq.mpr c34
                have c34b1 : ((strOfNums t487).toList != (strOfNums t491).toList) = false := bne_eq_false_iff_eq.mpr c34
                clear c34
                replace H := Option.bind_eq_some_iff.mp H
                obtain ⟨⟨t495, t496⟩, A350, H⟩ := H
                replace H : (satchellaw04_FrameEncodes.j0 k t467 t475 t479 t487 t491 (!t495)) = some r := H
                have A35 := Aside0.mk A350
                clear A350
                have H' := Aside0.mk H
                clear H
                have hcv36 := own_string (P := Try.prog) Try.underlying22 Try.underlying5 Try.underlying9 (Kd.own_of_R HO469.out)
                have hcv37 := own_string (P := Try.prog) Try.underlying22 Try.underlying5 Try.underlying9 (Kd.own_of_R HO481.out)
                have hcv38 := own_string (P := Try.prog) Try.underlying22 Try.underlying5 Try.underlying9 (Kd.own_of_R HO490.out)
                have hcv39 := own_string (P := Try.prog) Try.underlying22 Try.underlying5 Try.underlying9 (Kd.own_of_R HO494.out)
                go_wp2_with (first | (go_at_call 43; (with_reducible refine (satchellaw04_left.calls k (fun k_ => some k_ = (.slice Ao21 t460.length co21 : Value).ownBlock) (.slice Ao21 t460.length co21) t460 _ _ l0 t495 t496 w _ ?side1 ?side2 ?side3 ?side4 A35.out).mono ?_); (case side1 => repeat (first | (with_reducible first | exact HB.out | apply below_alloc | apply pw_below_drewN | apply below_drew1 | refine below_set ?_ GE459.out) | exact HB.out)); (case side2 => exact Kd.R_tight rfl HO462.out); (case side3 => exact Kd.C_kept_came (Kd.heap_int .u8) HR0.out (by repeat (first | (with_reducible first | exact HB.out | apply below_alloc | apply pw_below_drewN | apply below_drew1 | refine below_set ?_ GE459.out) | exact HB.out)) (fun k_ hs_ => (fun e_ => Kd.R_base HO462.out k_ e_.symm) hs_)); (case side4 => exact HC0.out); rintro e w40 ⟨rfl, hy0, hb, hkp⟩; have n0_ := Aside0.mk (blk_kept (by (with_reducible repeat (first | refine blk_drewN ?_ _ | refine blk_drew ?_ | refine blk_alloc ?_ _)); exact BK459.out) hkp (fun hs_ => (fun e_ => (Kd.R_ne HO462.out BK459.out (by decide)) e_) hs_)); have n1_ := Aside0.mk (Kd.R_reok rfl hy0 (fun k_ e_ => HO462.out.1 k_ e_)); have n2_ := Aside0.mk (Kd.R_mono (ok' := fun k_ => some k_ ≠ (.slice Ao21 t460.length co21 : Value).ownBlock ∧ some k_ ≠ (v476 : Value).ownBlock ∧ some k_ ≠ (v480 : Value).ownBlock ∧ some k_ ≠ (v489 : Value).ownBlock ∧ some k_ ≠ (v493 : Value).ownBlock) (Kd.R_keptB (HO469.out) hkp (fun k_ hk_ hs_ => (hk_.1.1.1.1.2) hs_)) (fun k_ hk_ => ⟨hk_.1.1.1.1.1.2, hk_.1.1.1.1.2, hk_.1.1.1.2, hk_.1.1.2, hk_.1.2⟩)); have n3_ := Aside0.mk (Kd.R_mono (ok' := fun k_ => some k_ ≠ (.slice Ao21 t460.length co21 : Value).ownBlock ∧ some k_ ≠ (v468 : Value).ownBlock ∧ some k_ ≠ (v480 : Value).ownBlock ∧ some k_ ≠ (v489 : Value).ownBlock ∧ some k_ ≠ (v493 : Value).ownBlock) (Kd.R_keptB (HO477.out) hkp (fun k_ hk_ hs_ => (hk_.1.1.1.1.2) hs_)) (fun k_ hk_ => ⟨hk_.1.1.1.1.1.2, hk_.1.1.1.1.2, hk_.1.1.1.2, hk_.1.1.2, hk_.1.2⟩)); have n4_ := Aside0.mk (Kd.R_mono (ok' := fun k_ => some k_ ≠ (.slice Ao21 t460.length co21 : Value).ownBlock ∧ some k_ ≠ (v468 : Value).ownBlock ∧ some k_ ≠ (v476 : Value).ownBlock ∧ some k_ ≠ (v489 : Value).ownBlock ∧ some k_ ≠ (v493 : Value).ownBlock) (Kd.R_keptB (HO481.out) hkp (fun k_ hk_ hs_ => (hk_.1.1.1.1.2) hs_)) (fun k_ hk_ => ⟨hk_.1.1.1.1.1.2, hk_.1.1.1.1.2, hk_.1.1.1.2, hk_.1.1.2, hk_.1.2⟩)); have n5_ := Aside0.mk (Kd.R_mono (ok' := fun k_ => some k_ ≠ (.slice Ao21 t460.length co21 : Value).ownBlock ∧ some k_ ≠ (v468 : Value).ownBlock ∧ some k_ ≠ (v476 : Value).ownBlock ∧ some k_ ≠ (v480 : Value).ownBlock ∧ some k_ ≠ (v493 : Value).ownBlock) (Kd.R_keptB (HO490.out) hkp (fun k_ hk_ hs_ => (hk_.1.1.1.1.2) hs_)) (fun k_ hk_ => ⟨hk_.1.1.1.1.1.2, hk_.1.1.1.1.2, hk_.1.1.1.2, hk_.1.1.2, hk_.1.2⟩)); have n6_ := Aside0.mk (Kd.R_mono (ok' := fun k_ => some k_ ≠ (.slice Ao21 t460.length co21 : Value).ownBlock ∧ some k_ ≠ (v468 : Value).ownBlock ∧ some k_ ≠ (v476 : Value).ownBlock ∧ some k_ ≠ (v480 : Value).ownBlock ∧ some k_ ≠ (v489 : Value).ownBlock) (Kd.R_keptB (HO494.out) hkp (fun k_ hk_ hs_ => (hk_.1.1.1.1.2) hs_)) (fun k_ hk_ => ⟨hk_.1.1.1.1.1.2, hk_.1.1.1.1.2, hk_.1.1.1.2, hk_.1.1.2, hk_.1.2⟩)); have n7_ := Aside0.mk (hb); clear BK459; clear HO462; clear HO469; clear HO477; clear HO481; clear HO490; clear HO494; clear HB; have BK459 := n0_; have HO462 := n1_; have HO469 := n2_; have HO477 := n3_; have HO481 := n4_; have HO490 := n5_; have HO494 := n6_; have HB := n7_; clear n0_ n1_ n2_ n3_ n4_ n5_ n6_ n7_; (try clear hb); (try clear hkp); (try clear hy0)))
                go_meet
                case rel => exact ⟨_, (!t495), (by first | rfl | (simp; done) | (simp [*]; done)), H', ⟨by first | omega | exact Nat.le_refl _⟩, ⟨by (with_reducible repeat (first | apply Kd.R_alloc | apply Kd.R_drewN | apply Kd.R_drew)); exact Kd.R_mono HO469.out (fun _ hk => ⟨hk.2.1, ⟨hk.2.2.1, ⟨hk.2.2.2.1, hk.2.2.2.2⟩⟩⟩)⟩, ⟨by (with_reducible repeat (first | apply Kd.R_alloc | apply Kd.R_drewN | apply Kd.R_drew)); exact Kd.R_mono HO477.out (fun _ hk => ⟨hk.2.1, ⟨hk.2.2.1, ⟨hk.2.2.2.1, hk.2.2.2.2⟩⟩⟩)⟩, ⟨by (with_reducible repeat (first | apply Kd.R_alloc | apply Kd.R_drewN | apply Kd.R_drew)); exact Kd.R_mono HO481.out (fun _ hk => ⟨hk.2.1, ⟨hk.2.2.1, ⟨hk.2.2.2.1, hk.2.2.2.2⟩⟩⟩)⟩, ⟨by (with_reducible repeat (first | apply Kd.R_alloc | apply Kd.R_drewN | apply Kd.R_drew)); exact Kd.R_mono HO490.out (fun _ hk => ⟨hk.2.1, ⟨hk.2.2.1, ⟨hk.2.2.2.1, hk.2.2.2.2⟩⟩⟩)⟩, ⟨by (with_reducible repeat (first | apply Kd.R_alloc | apply Kd.R_drewN | apply Kd.R_drew)); exact Kd.R_mono HO494.out (fun _ hk => ⟨hk.2.1, ⟨hk.2.2.1, ⟨hk.2.2.2.1, hk.2.2.2.2⟩⟩⟩)⟩, ⟨by (with_reducible repeat (first | refine blk_drewN ?_ _ | refine blk_drew ?_ | refine blk_alloc ?_ _)); exact BK459.out⟩, ⟨by repeat (first | (with_reducible first | exact HB.out | apply below_alloc | apply pw_below_drewN | apply below_drew1 | refine below_set ?_ GE459.out) | exact HB.out)⟩⟩
              · rw [if_neg c34] at H
                have c34b0 : ((strOfNums t487).toList == (strOfNums t491).toList) = false := beq_eq_false_iff_ne.mpr c34
                have c34b1 : ((strOfNums t487).toList != (strOfNums t491).toList) = true := bne_iff_ne.mpr c34
                have H' := Aside0.mk H
                clear H
                have hcv41 := own_string (P := Try.prog) Try.underlying22 Try.underlying5 Try.underlying9 (Kd.own_of_R HO469.out)
                have hcv42 := own_string (P := Try.prog) Try.underlying22 Try.underlying5 Try.underlying9 (Kd.own_of_R HO481.out)
                have hcv43 := own_string (P := Try.prog) Try.underlying22 Try.underlying5 Try.underlying9 (Kd.own_of_R HO490.out)
                have hcv44 := own_string (P := Try.prog) Try.underlying22 Try.underlying5 Try.underlying9 (Kd.own_of_R HO494.out)
                go_wp2
                go_meet
                case rel => exact ⟨_, (true), (by first | rfl | (simp; done) | (simp [*]; done)), H', ⟨by first | omega | exact Nat.le_refl _⟩, ⟨by (with_reducible repeat (first | apply Kd.R_alloc | apply Kd.R_drewN | apply Kd.R_drew)); exact Kd.R_mono HO469.out (fun _ hk => ⟨hk.1.1.1.2, ⟨hk.1.1.2, ⟨hk.1.2, hk.2⟩⟩⟩)⟩, ⟨by (with_reducible repeat (first | apply Kd.R_alloc | apply Kd.R_drewN | apply Kd.R_drew)); exact Kd.R_mono HO477.out (fun _ hk => ⟨hk.1.1.1.2, ⟨hk.1.1.2, ⟨hk.1.2, hk.2⟩⟩⟩)⟩, ⟨by (with_reducible repeat (first | apply Kd.R_alloc | apply Kd.R_drewN | apply Kd.R_drew)); exact Kd.R_mono HO481.out (fun _ hk => ⟨hk.1.1.1.2, ⟨hk.1.1.2, ⟨hk.1.2, hk.2⟩⟩⟩)⟩, ⟨by (with_reducible repeat (first | apply Kd.R_alloc | apply Kd.R_drewN | apply Kd.R_drew)); exact Kd.R_mono HO490.out (fun _ hk => ⟨hk.1.1.1.2, ⟨hk.1.1.2, ⟨hk.1.2, hk.2⟩⟩⟩)⟩, ⟨by (with_reducible repeat (first | apply Kd.R_alloc | apply Kd.R_drewN | apply Kd.R_drew)); exact Kd.R_mono HO494.out (fun _ hk => ⟨hk.1.1.1.2, ⟨hk.1.1.2, ⟨hk.1.2, hk.2⟩⟩⟩)⟩, ⟨by (with_reducible repeat (first | refine blk_drewN ?_ _ | refine blk_drew ?_ | refine blk_alloc ?_ _)); exact BK459.out⟩, ⟨by repeat (first | (with_reducible first | exact HB.out | apply below_alloc | apply pw_below_drewN | apply below_drew1 | refine below_set ?_ GE459.out) | exact HB.out)⟩⟩
            · rw [if_neg c33] at H
              have c33b0 : ((strOfNums t467).toList == (strOfNums t479).toList) = false := beq_eq_false_iff_ne.mpr c33
              have c33b1 : ((strOfNums t467).toList != (strOfNums t479).toList) = true := bne_iff_ne.mpr c33
              have H' := Aside0.mk H
              clear H
              have hcv45 := own_string (P := Try.prog) Try.underlying22 Try.underlying5 Try.underlying9 (Kd.own_of_R HO469.out)
              have hcv46 := own_string (P := Try.prog) Try.underlying22 Try.underlying5 Try.underlying9 (Kd.own_of_R HO481.out)
              go_wp2
              go_meet
              case rel => exact ⟨_, (true), (by first | rfl | (simp; done) | (simp [*]; done)), H', ⟨by first | omega | exact Nat.le_refl _⟩, ⟨by (with_reducible repeat (first | apply Kd.R_alloc | apply Kd.R_drewN | apply Kd.R_drew)); exact Kd.R_mono HO469.out (fun _ hk => ⟨hk.1.1.1.2, ⟨hk.1.1.2, ⟨hk.1.2, hk.2⟩⟩⟩)⟩, ⟨by (with_reducible repeat (first | apply Kd.R_alloc | apply Kd.R_drewN | apply Kd.R_drew)); exact Kd.R_mono HO477.out (fun _ hk => ⟨hk.1.1.1.2, ⟨hk.1.1.2, ⟨hk.1.2, hk.2⟩⟩⟩)⟩, ⟨by (with_reducible repeat (first | apply Kd.R_alloc | apply Kd.R_drewN | apply Kd.R_drew)); exact Kd.R_mono HO481.out (fun _ hk => ⟨hk.1.1.1.2, ⟨hk.1.1.2, ⟨hk.1.2, hk.2⟩⟩⟩)⟩, ⟨by (with_reducible repeat (first | apply Kd.R_alloc | apply Kd.R_drewN | apply Kd.R_drew)); exact Kd.R_mono HO490.out (fun _ hk => ⟨hk.1.1.1.2, ⟨hk.1.1.2, ⟨hk.1.2, hk.2⟩⟩⟩)⟩, ⟨by (with_reducible repeat (first | apply Kd.R_alloc | apply Kd.R_drewN | apply Kd.R_drew)); exact Kd.R_mono HO494.out (fun _ hk => ⟨hk.1.1.1.2, ⟨hk.1.1.2, ⟨hk.1.2, hk.2⟩⟩⟩)⟩, ⟨by (with_reducible repeat (first | refine blk_drewN ?_ _ | refine blk_drew ?_ | refine blk_alloc ?_ _)); exact BK459.out⟩, ⟨by repeat (first | (with_reducible first | exact HB.out | apply below_alloc | apply pw_below_drewN | apply below_drew1 | refine below_set ?_ GE459.out) | exact HB.out)⟩⟩
          · rw [if_neg c32] at H
            have c32b0 : (t488 == t492) = false := beq_eq_false_iff_ne.mpr c32
            have c32b1 : (t488 != t492) = true := bne_iff_ne.mpr c32
            have H' := Aside0.mk H
            clear H
            go_wp2
            go_meet
            case rel => exact ⟨_, (true), (by first | rfl | (simp; done) | (simp [*]; done)), H', ⟨by first | omega | exact Nat.le_refl _⟩, ⟨by (with_reducible repeat (first | apply Kd.R_alloc | apply Kd.R_drewN | apply Kd.R_drew)); exact Kd.R_mono HO469.out (fun _ hk => ⟨hk.1.1.1.2, ⟨hk.1.1.2, ⟨hk.1.2, hk.2⟩⟩⟩)⟩, ⟨by (with_reducible repeat (first | apply Kd.R_alloc | apply Kd.R_drewN | apply Kd.R_drew)); exact Kd.R_mono HO477.out (fun _ hk => ⟨hk.1.1.1.2, ⟨hk.1.1.2, ⟨hk.1.2, hk.2⟩⟩⟩)⟩, ⟨by (with_reducible repeat (first | apply Kd.R_alloc | apply Kd.R_drewN | apply Kd.R_drew)); exact Kd.R_mono HO481.out (fun _ hk => ⟨hk.1.1.1.2, ⟨hk.1.1.2, ⟨hk.1.2, hk.2⟩⟩⟩)⟩, ⟨by (with_reducible repeat (first | apply Kd.R_alloc | apply Kd.R_drewN | apply Kd.R_drew)); exact Kd.R_mono HO490.out (fun _ hk => ⟨hk.1.1.1.2, ⟨hk.1.1.2, ⟨hk.1.2, hk.2⟩⟩⟩)⟩, ⟨by (with_reducible repeat (first | apply Kd.R_alloc | apply Kd.R_drewN | apply Kd.R_drew)); exact Kd.R_mono HO494.out (fun _ hk => ⟨hk.1.1.1.2, ⟨hk.1.1.2, ⟨hk.1.2, hk.2⟩⟩⟩)⟩, ⟨by (with_reducible repeat (first | refine blk_drewN ?_ _ | refine blk_drew ?_ | refine blk_alloc ?_ _)); exact BK459.out⟩, ⟨by repeat (first | (with_reducible first | exact HB.out | apply below_alloc | apply pw_below_drewN | apply below_drew1 | refine below_set ?_ GE459.out) | exact HB.out)⟩⟩
        · rw [if_neg c31] at H
          have c31b0 : (t470 == t482) = false := beq_eq_false_iff_ne.mpr c31
          have c31b1 : (t470 != t482) = true := bne_iff_ne.mpr c31
          (first | rw [c31b0] | (simp only [i64_w, i32_w]; rw [c31b0]) | skip)
          have H' := Aside0.mk H
          clear H
          go_wp2
          go_meet
          case rel => exact ⟨_, (true), (by first | rfl | (simp; done) | (simp [*]; done)), H', ⟨by first | omega | exact Nat.le_refl _⟩, ⟨by (with_reducible repeat (first | apply Kd.R_alloc | apply Kd.R_drewN | apply Kd.R_drew)); exact Kd.R_mono HO469.out (fun _ hk => ⟨hk.1.1.1.2, ⟨hk.1.1.2, ⟨hk.1.2, hk.2⟩⟩⟩)⟩, ⟨by (with_reducible repeat (first | apply Kd.R_alloc | apply Kd.R_drewN | apply Kd.R_drew)); exact Kd.R_mono HO477.out (fun _ hk => ⟨hk.1.1.1.2, ⟨hk.1.1.2, ⟨hk.1.2, hk.2⟩⟩⟩)⟩, ⟨by (with_reducible repeat (first | apply Kd.R_alloc | apply Kd.R_drewN | apply Kd.R_drew)); exact Kd.R_mono HO481.out (fun _ hk => ⟨hk.1.1.1.2, ⟨hk.1.1.2, ⟨hk.1.2, hk.2⟩⟩⟩)⟩, ⟨by (with_reducible repeat (first | apply Kd.R_alloc | apply Kd.R_drewN | apply Kd.R_drew)); exact Kd.R_mono HO490.out (fun _ hk => ⟨hk.1.1.1.2, ⟨hk.1.1.2, ⟨hk.1.2, hk.2⟩⟩⟩)⟩, ⟨by (with_reducible repeat (first | apply Kd.R_alloc | apply Kd.R_drewN | apply Kd.R_drew)); exact Kd.R_mono HO494.out (fun _ hk => ⟨hk.1.1.1.2, ⟨hk.1.1.2, ⟨hk.1.2, hk.2⟩⟩⟩)⟩, ⟨by (with_reducible repeat (first | refine blk_drewN ?_ _ | refine blk_drew ?_ | refine blk_alloc ?_ _)); exact BK459.out⟩, ⟨by repeat (first | (with_reducible first | exact HB.out | apply below_alloc | apply pw_below_drewN | apply below_drew1 | refine below_set ?_ GE459.out) | exact HB.out)⟩⟩
      case rest =>
        clear HC16
        try clear c1
        try clear c2
        try clear p2
        try clear q2
        try clear c3
        try clear hcv3
        try clear c4
        try clear hcv4
        try clear c5
        try clear c5b0
        try clear c5b1
        try clear c6
        try clear c6b0
        try clear c6b1
        try clear c8
        try clear c8b0
        try clear c9
        try clear c9b0
        try clear c10
        try clear c12
        try clear c12b0
        try clear c13
        try clear c13b0
        try clear q20
        try clear q24
        try clear q28
        try clear c29
        try clear c30
        try clear c31
        try clear c31b0
        try clear c31b1
        try clear c32
        try clear c32b0
        try clear c32b1
        try clear c33
        try clear c33b0
        try clear c33b1
        try clear c34
        try clear c34b0
        try clear c34b1
        try clear hcv36
        try clear hcv37
        try clear hcv38
        try clear hcv39
        try clear c40
        try clear c41
        try clear hcv41
        try clear c42
        try clear hcv42
        try clear hcv43
        try clear hcv44
        try clear hcv45
        try clear hcv46
        try clear hcz26_0
        try clear hcz26_1
        try clear hcz26_2
        try clear hcz26_3
        try clear hcz26_4
        try clear hfz26_0
        try clear hfz26_1
        try clear hfz26_2
        try clear hfz26_3
        try clear hfz26_4
        try clear q20
        try clear q24
        try clear q28
        obtain ⟨kq, x87_15, rfl, HA, HJ15, HO_8, HO_10, HO_12, HO_14, HO_16, BK459, HB⟩ := hcut
        cases kq with
        | zero => exact absurd HA.out (by simp [satchellaw04_FrameEncodes.j0])
        | succ kj15 =>
          have H := HA.out
          clear HA
          simp only [satchellaw04_FrameEncodes.j0] at H
          by_cases c47 : x87_15 = true
          · subst c47
            have H1 : (some false) = some r := by rw [if_pos rfl] at H; exact H
            clear H
            have H := H1
            clear H1
            obtain rfl := Option.some.inj H
            go_wp2
            go_ret
            exact ⟨by first | rfl | (simp [errW_none, errW_some] <;> rfl) | (simp [*, errW_none, errW_some] <;> rfl), by repeat (first | (with_reducible first | exact HB.out | apply below_alloc | apply pw_below_drewN | apply below_drew1 | refine below_set ?_ GE459.out) | exact HB.out)⟩
          · replace c47 := Bool.eq_false_iff.mpr c47
            subst c47
            have H1 : (satchellaw04_FrameEncodes.l0 kj15 t467 t475 t479 t487 t491 0) = some r := by rw [if_neg (show ¬ (false = true) by decide)] at H; exact H
            clear H
            have H := H1
            clear H1
            have H' := Aside0.mk H
            clear H
            go_wp2
            go_loopg [18] kj15 (fun kq v18 w' => ∃ (x8_2 : List Int) (x18_2 : Int), v18 = .int .i64 x18_2 ∧ Aside0 (satchellaw04_FrameEncodes.l0 kq x8_2 t475 t479 t487 t491 x18_2 = some r) ∧ Aside0 (kq ≤ kj15) ∧ Aside0 (Kd.R (Kd.int .u8) 5 w' w.heap.size (fun k_ => some k_ ≠ (v476 : Value).ownBlock ∧ some k_ ≠ (v480 : Value).ownBlock ∧ some k_ ≠ (v489 : Value).ownBlock ∧ some k_ ≠ (v493 : Value).ownBlock) v468 x8_2) ∧ Aside0 (Kd.R (Kd.int .u8) 5 w' w.heap.size (fun k_ => some k_ ≠ (v468 : Value).ownBlock ∧ some k_ ≠ (v480 : Value).ownBlock ∧ some k_ ≠ (v489 : Value).ownBlock ∧ some k_ ≠ (v493 : Value).ownBlock) v476 t475) ∧ Aside0 (Kd.R (Kd.int .u8) 5 w' w.heap.size (fun k_ => some k_ ≠ (v468 : Value).ownBlock ∧ some k_ ≠ (v476 : Value).ownBlock ∧ some k_ ≠ (v489 : Value).ownBlock ∧ some k_ ≠ (v493 : Value).ownBlock) v480 t479) ∧ Aside0 (Kd.R (Kd.int .u8) 5 w' w.heap.size (fun k_ => some k_ ≠ (v468 : Value).ownBlock ∧ some k_ ≠ (v476 : Value).ownBlock ∧ some k_ ≠ (v480 : Value).ownBlock ∧ some k_ ≠ (v493 : Value).ownBlock) v489 t487) ∧ Aside0 (Kd.R (Kd.int .u8) 5 w' w.heap.size (fun k_ => some k_ ≠ (v468 : Value).ownBlock ∧ some k_ ≠ (v476 : Value).ownBlock ∧ some k_ ≠ (v480 : Value).ownBlock ∧ some k_ ≠ (v489 : Value).ownBlock) v493 t491) ∧ Aside0 (w'.heap[gb459]? = some (.cells #[.int .i64 a1_0, .bool a1_1, .bool a1_2, .bool a1_3, .bool a1_4] 31 (0, 0))) ∧ Aside0 (Below w.heap.size w w'))
            case atStart => exact ⟨(t467), (0), (by first | rfl | (simp; done) | (simp [*]; done)), H', ⟨Nat.le_refl _⟩, ⟨by (with_reducible repeat (first | apply Kd.R_alloc | apply Kd.R_drewN | apply Kd.R_drew)); exact HO_8.out⟩, ⟨by (with_reducible repeat (first | apply Kd.R_alloc | apply Kd.R_drewN | apply Kd.R_drew)); exact HO_10.out⟩, ⟨by (with_reducible repeat (first | apply Kd.R_alloc | apply Kd.R_drewN | apply Kd.R_drew)); exact HO_12.out⟩, ⟨by (with_reducible repeat (first | apply Kd.R_alloc | apply Kd.R_drewN | apply Kd.R_drew)); exact HO_14.out⟩, ⟨by (with_reducible repeat (first | apply Kd.R_alloc | apply Kd.R_drewN | apply Kd.R_drew)); exact HO_16.out⟩, ⟨by (with_reducible repeat (first | refine blk_drewN ?_ _ | refine blk_drew ?_ | refine blk_alloc ?_ _)); exact BK459.out⟩, ⟨by repeat (first | (with_reducible first | exact HB.out | apply below_alloc | apply pw_below_drewN | apply below_drew1 | refine below_set ?_ GE459.out) | exact HB.out)⟩⟩
            case round =>
              clear H'
              try clear c1
              try clear c2
              try clear p2
              try clear q2
              try clear c3
              try clear hcv3
              try clear c4
              try clear hcv4
              try clear c5
              try clear c5b0
              try clear c5b1
              try clear c6
              try clear c6b0
              try clear c6b1
              try clear c8
              try clear c8b0
              try clear c9
              try clear c9b0
              try clear c10
              try clear c12
              try clear c12b0
              try clear c13
              try clear c13b0
              try clear q20
              try clear q24
              try clear q28
              try clear c29
              try clear c30
              try clear c31
              try clear c31b0
              try clear c31b1
              try clear c32
              try clear c32b0
              try clear c32b1
              try clear c33
              try clear c33b0
              try clear c33b1
              try clear c34
              try clear c34b0
              try clear c34b1
              try clear hcv36
              try clear hcv37
              try clear hcv38
              try clear hcv39
              try clear c40
              try clear c41
              try clear hcv41
              try clear c42
              try clear hcv42
              try clear hcv43
              try clear hcv44
              try clear hcv45
              try clear hcv46
              try clear c47
              try clear hcz26_0
              try clear hcz26_1
              try clear hcz26_2
              try clear hcz26_3
              try clear hcz26_4
              try clear hfz26_0
              try clear hfz26_1
              try clear hfz26_2
              try clear hfz26_3
              try clear hfz26_4
              try clear p2
              try clear q2
              try clear q20
              try clear q24
              try clear q28
              obtain ⟨x8_2, x18_2, rfl, HA, HK2, HO_8, HO_10, HO_12, HO_14, HO_16, BK459, HB⟩ := hrel
              cases gk with
              | zero => exact absurd HA.out (by simp [satchellaw04_FrameEncodes.l0])
              | succ k2 =>
                have H := HA.out
                clear HA
                simp only [satchellaw04_FrameEncodes.l0] at H
                by_cases c48 : x18_2 < (x8_2.length : Int)
                · rw [if_pos c48] at H
                  have c48b0 : decide (x18_2 < (x8_2.length : Int)) = true := decide_eq_true c48
                  clear c48
                  by_cases c49 : 0 ≤ x18_2
                  · rw [if_pos c49] at H
                    have c49b0 : decide (0 ≤ x18_2) = true := decide_eq_true c49
                    clear c49
                    obtain ⟨y497, hy497⟩ : ∃ y_ : List Int, y_ = (x8_2.set (x18_2 : Int).toNat 238) := ⟨_, rfl⟩
                    replace H : (satchellaw04_FrameEncodes.l0 k2 y497 t475 t479 t487 t491 (wrap64 (x18_2 + 1))) = some r := by first | (rw [hy497]; with_reducible exact H) | (have H2_ := (Option.bind_some _ _).symm.trans H; rw [hy497]; with_reducible exact H2_) | (have H2_ := (Option.bind_some _ _).symm.trans H; with_reducible exact H2_) | with_reducible exact H | (rw [hy497]; exact H) | exact H
                    have Ny497 := Aside0.mk hy497
                    clear hy497
                    have H' := Aside0.mk H
                    clear H
                    obtain ⟨Ao51, co51, eo51⟩ := Kd.R_slice HO_8.out
                    subst eo51
                    have p50 : 0 ≤ (x18_2 : Int) := of_decide_eq_true (by first | (with_reducible assumption) | assumption)
                    have q50 : (x18_2 : Int) < ((x8_2.length : Int) : Int) := of_decide_eq_true (by first | (with_reducible assumption) | assumption)
                    obtain ⟨go50, co50, eo50, gb50, gl50, cl50, HG50⟩ := Kd.R_form HO_8.out (by omega)
                    (first | cases eo50 | (injection eo50 with ea_ en_ ec_; (first | subst ea_ | (injection ea_ with ea_; subst ea_)); subst ec_; clear en_))
                    have GB50 := Aside0.mk gb50
                    have GG50 := Aside0.mk HG50
                    clear gb50 gl50 HG50
                    obtain ⟨hx50_0, hf50_0⟩ := Kd.R_celln 0 HO_8.out (x18_2 : Int) p50 q50
                    replace p50 := eq_true p50
                    replace q50 := eq_true q50
                    have HP52 := Kd.R_putg HO_8.out (x18_2 : Int) 238
                    go_wp2_with (first | ((with_reducible refine gate_store (t := 5) (p := 96) rfl ?_); refine store_event (t := 5) (p := 96) (v := ?vo_w53) (w1 := (wr.setCell ⟨go50, (x18_2 : Int).toNat, none⟩ (.int .u8 238))) ?hg ?ho ?hn ?hr ?_; (case ho => rfl); (case hg => rfl); (case hn => rfl); (case hr => first | (go_simp; done) | (go_simp; rfl)); intro w53 hw; have hg : wr.grownBy w53 (some go50) := (by rw [hw]; exact HP52.2); have hp_ : Kd.R (Kd.int .u8) 5 w53 w.heap.size (fun k_ => some k_ ≠ (v476 : Value).ownBlock ∧ some k_ ≠ (v480 : Value).ownBlock ∧ some k_ ≠ (v489 : Value).ownBlock ∧ some k_ ≠ (v493 : Value).ownBlock) (.slice (some ⟨go50, 0, none⟩) x8_2.length co51) y497 := (by rw [hw, Ny497.out]; exact HP52.1); clear HP52; have n0_ := Aside0.mk (hp_); have n1_ := Aside0.mk (Kd.R_after (v := (.slice (some ⟨go50, 0, none⟩) x8_2.length co51)) (v1 := (.slice (some ⟨go50, 0, none⟩) x8_2.length co51)) (ok := (fun k_ => some k_ ≠ (v480 : Value).ownBlock ∧ some k_ ≠ (v489 : Value).ownBlock ∧ some k_ ≠ (v493 : Value).ownBlock)) (by (with_reducible repeat (first | apply Kd.R_alloc | apply Kd.R_drewN | apply Kd.R_drew)); exact Kd.R_mono HO_10.out (fun _ hk => ⟨⟨hk.2.1, ⟨hk.2.2.1, hk.2.2.2⟩⟩, hk.1⟩)) hg (.inl rfl)); have n2_ := Aside0.mk (Kd.R_after (v := (.slice (some ⟨go50, 0, none⟩) x8_2.length co51)) (v1 := (.slice (some ⟨go50, 0, none⟩) x8_2.length co51)) (ok := (fun k_ => some k_ ≠ (v476 : Value).ownBlock ∧ some k_ ≠ (v489 : Value).ownBlock ∧ some k_ ≠ (v493 : Value).ownBlock)) (by (with_reducible repeat (first | apply Kd.R_alloc | apply Kd.R_drewN | apply Kd.R_drew)); exact Kd.R_mono HO_12.out (fun _ hk => ⟨⟨hk.2.1, ⟨hk.2.2.1, hk.2.2.2⟩⟩, hk.1⟩)) hg (.inl rfl)); have n3_ := Aside0.mk (Kd.R_after (v := (.slice (some ⟨go50, 0, none⟩) x8_2.length co51)) (v1 := (.slice (some ⟨go50, 0, none⟩) x8_2.length co51)) (ok := (fun k_ => some k_ ≠ (v476 : Value).ownBlock ∧ some k_ ≠ (v480 : Value).ownBlock ∧ some k_ ≠ (v493 : Value).ownBlock)) (by (with_reducible repeat (first | apply Kd.R_alloc | apply Kd.R_drewN | apply Kd.R_drew)); exact Kd.R_mono HO_14.out (fun _ hk => ⟨⟨hk.2.1, ⟨hk.2.2.1, hk.2.2.2⟩⟩, hk.1⟩)) hg (.inl rfl)); have n4_ := Aside0.mk (Kd.R_after (v := (.slice (some ⟨go50, 0, none⟩) x8_2.length co51)) (v1 := (.slice (some ⟨go50, 0, none⟩) x8_2.length co51)) (ok := (fun k_ => some k_ ≠ (v476 : Value).ownBlock ∧ some k_ ≠ (v480 : Value).ownBlock ∧ some k_ ≠ (v489 : Value).ownBlock)) (by (with_reducible repeat (first | apply Kd.R_alloc | apply Kd.R_drewN | apply Kd.R_drew)); exact Kd.R_mono HO_16.out (fun _ hk => ⟨⟨hk.2.1, ⟨hk.2.2.1, hk.2.2.2⟩⟩, hk.1⟩)) hg (.inl rfl)); have n5_ := Aside0.mk (blk_grown (g := gb459) (o := .cells #[.int .i64 a1_0, .bool a1_1, .bool a1_2, .bool a1_3, .bool a1_4] 31 (0, 0)) (by (with_reducible repeat (first | refine blk_drewN ?_ _ | refine blk_drew ?_ | refine blk_alloc ?_ _)); exact BK459.out) hg (Kd.R_ne HO_8.out BK459.out (by decide))); have n6_ := Aside0.mk ((by rw [hw]; exact below_set (HB.out) GB50.out : Below w.heap.size w w53)); clear HO_8; clear HO_10; clear HO_12; clear HO_14; clear HO_16; clear BK459; clear HB; have HO_8 := n0_; have HO_10 := n1_; have HO_12 := n2_; have HO_14 := n3_; have HO_16 := n4_; have BK459 := n5_; have HB := n6_; clear n0_ n1_ n2_ n3_ n4_ n5_ n6_; clear hg hw hp_))
                    go_roundg k2
                    case measure => have := HJ15.out; have := HK2.out; omega
                    case rel => exact ⟨(y497), (wrap64 (x18_2 + 1)), (by first | rfl | (simp; done) | (simp [*]; done)), H', ⟨by have := HJ15.out; have := HK2.out; omega⟩, ⟨by (with_reducible repeat (first | apply Kd.R_alloc | apply Kd.R_drewN | apply Kd.R_drew)); exact HO_8.out⟩, ⟨by (with_reducible repeat (first | apply Kd.R_alloc | apply Kd.R_drewN | apply Kd.R_drew)); exact Kd.R_mono HO_10.out (fun _ hk => ⟨hk.2, ⟨hk.1.1, ⟨hk.1.2.1, hk.1.2.2⟩⟩⟩)⟩, ⟨by (with_reducible repeat (first | apply Kd.R_alloc | apply Kd.R_drewN | apply Kd.R_drew)); exact Kd.R_mono HO_12.out (fun _ hk => ⟨hk.2, ⟨hk.1.1, ⟨hk.1.2.1, hk.1.2.2⟩⟩⟩)⟩, ⟨by (with_reducible repeat (first | apply Kd.R_alloc | apply Kd.R_drewN | apply Kd.R_drew)); exact Kd.R_mono HO_14.out (fun _ hk => ⟨hk.2, ⟨hk.1.1, ⟨hk.1.2.1, hk.1.2.2⟩⟩⟩)⟩, ⟨by (with_reducible repeat (first | apply Kd.R_alloc | apply Kd.R_drewN | apply Kd.R_drew)); exact Kd.R_mono HO_16.out (fun _ hk => ⟨hk.2, ⟨hk.1.1, ⟨hk.1.2.1, hk.1.2.2⟩⟩⟩)⟩, ⟨by (with_reducible repeat (first | refine blk_drewN ?_ _ | refine blk_drew ?_ | refine blk_alloc ?_ _)); exact BK459.out⟩, ⟨by repeat (first | (with_reducible first | exact HB.out | apply below_alloc | apply pw_below_drewN | apply below_drew1 | refine below_set ?_ GE459.out) | exact HB.out)⟩⟩
                  · rw [if_neg c49] at H
                    exact absurd H (by simp)
                · rw [if_neg c48] at H
                  have c48b0 : decide (x18_2 < (x8_2.length : Int)) = false := decide_eq_false c48
                  clear c48
                  by_cases c54 : x8_2.length < 140737488355328
                  · rw [if_pos c54] at H
                    have LMc54 := Aside0.mk c54
                    clear c54
                    obtain ⟨y498, hy498⟩ : ∃ y_ : List Int, y_ = (x8_2 ++ [221]) := ⟨_, rfl⟩
                    replace H : (if (strOfNums t475).toList = (strOfNums t479).toList then (some ((strOfNums t487).toList == (strOfNums t491).toList)) else (some false)) = some r := by first | (rw [hy498]; with_reducible exact H) | (have H2_ := (Option.bind_some _ _).symm.trans H; rw [hy498]; with_reducible exact H2_) | (have H2_ := (Option.bind_some _ _).symm.trans H; with_reducible exact H2_) | with_reducible exact H | (rw [hy498]; exact H) | exact H
                    have Ny498 := Aside0.mk hy498
                    clear hy498
                    by_cases c55 : (strOfNums t475).toList = (strOfNums t479).toList
                    · rw [if_pos c55] at H
                      have c55b0 : ((strOfNums t475).toList == (strOfNums t479).toList) = true := beq_iff_eq.mpr c55
                      have c55b1 : ((strOfNums t475).toList != (strOfNums t479).toList) = false := bne_eq_false_iff_eq.mpr c55
                      clear c55
                      obtain rfl := Option.some.inj H
                      obtain ⟨Ao56, co56, eo56⟩ := Kd.R_slice HO_8.out
                      subst eo56
                      go_wp2_with (first | ((with_reducible refine gate_builtin (b := .append) (xs := #[.tmp 97, .tmp 98]) rfl ?_); at_builtin; refine Kd.R_append (Kd.int .u8) (w0 := w) w.heap.size rfl (.tmp 97) (.tmp 98) 22 5 (.int .u8 0) 1 rfl Try.underlying22 info5 rfl (by decide) (by omega) (.slice Ao56 x8_2.length co56) x8_2 221 [.int .u8 221] (fun k_ => some k_ ≠ (v476 : Value).ownBlock ∧ some k_ ≠ (v480 : Value).ownBlock ∧ some k_ ≠ (v489 : Value).ownBlock ∧ some k_ ≠ (v493 : Value).ownBlock) (fun _ => False) rfl rfl ?aP (fun _ hk => hk.elim) ?aF ?aO ?aB ?aS ?aL ?_; (case aP => exact rfl); (case aB => exact (by repeat (first | (with_reducible first | exact HB.out | apply below_alloc | apply pw_below_drewN | apply below_drew1 | refine below_set ?_ GE459.out) | exact HB.out))); (case aF => exact (fun k_ hk => ⟨Kd.fresh' (Kd.R_lt (by (with_reducible repeat (first | apply Kd.R_alloc | apply Kd.R_drewN | apply Kd.R_drew)); exact HO_10.out)) k_ hk, Kd.fresh' (Kd.R_lt (by (with_reducible repeat (first | apply Kd.R_alloc | apply Kd.R_drewN | apply Kd.R_drew)); exact HO_12.out)) k_ hk, Kd.fresh' (Kd.R_lt (by (with_reducible repeat (first | apply Kd.R_alloc | apply Kd.R_drewN | apply Kd.R_drew)); exact HO_14.out)) k_ hk, Kd.fresh' (Kd.R_lt (by (with_reducible repeat (first | apply Kd.R_alloc | apply Kd.R_drewN | apply Kd.R_drew)); exact HO_16.out)) k_ hk⟩)); (case aO => exact (by (with_reducible repeat (first | apply Kd.R_alloc | apply Kd.R_drewN | apply Kd.R_drew)); exact HO_8.out)); (case aS => exact (below_size (by repeat (first | (with_reducible first | exact HB.out | apply below_alloc | apply pw_below_drewN | apply below_drew1 | refine below_set ?_ GE459.out) | exact HB.out)))); (case aL => have := LMc54.out; omega); intro v499 w57 ho hb hg hat; rw [← Ny498.out] at ho; have n0_ := Aside0.mk (Kd.R_after (ok := (fun k_ => some k_ ≠ (v480 : Value).ownBlock ∧ some k_ ≠ (v489 : Value).ownBlock ∧ some k_ ≠ (v493 : Value).ownBlock)) (by (with_reducible repeat (first | apply Kd.R_alloc | apply Kd.R_drewN | apply Kd.R_drew)); exact Kd.R_mono HO_10.out (fun _ hk => ⟨⟨hk.2.1, ⟨hk.2.2.1, hk.2.2.2⟩⟩, hk.1⟩)) hg hat); have n1_ := Aside0.mk (Kd.R_after (ok := (fun k_ => some k_ ≠ (v476 : Value).ownBlock ∧ some k_ ≠ (v489 : Value).ownBlock ∧ some k_ ≠ (v493 : Value).ownBlock)) (by (with_reducible repeat (first | apply Kd.R_alloc | apply Kd.R_drewN | apply Kd.R_drew)); exact Kd.R_mono HO_12.out (fun _ hk => ⟨⟨hk.2.1, ⟨hk.2.2.1, hk.2.2.2⟩⟩, hk.1⟩)) hg hat); have n2_ := Aside0.mk (Kd.R_after (ok := (fun k_ => some k_ ≠ (v476 : Value).ownBlock ∧ some k_ ≠ (v480 : Value).ownBlock ∧ some k_ ≠ (v493 : Value).ownBlock)) (by (with_reducible repeat (first | apply Kd.R_alloc | apply Kd.R_drewN | apply Kd.R_drew)); exact Kd.R_mono HO_14.out (fun _ hk => ⟨⟨hk.2.1, ⟨hk.2.2.1, hk.2.2.2⟩⟩, hk.1⟩)) hg hat); have n3_ := Aside0.mk (Kd.R_after (ok := (fun k_ => some k_ ≠ (v476 : Value).ownBlock ∧ some k_ ≠ (v480 : Value).ownBlock ∧ some k_ ≠ (v489 : Value).ownBlock)) (by (with_reducible repeat (first | apply Kd.R_alloc | apply Kd.R_drewN | apply Kd.R_drew)); exact Kd.R_mono HO_16.out (fun _ hk => ⟨⟨hk.2.1, ⟨hk.2.2.1, hk.2.2.2⟩⟩, hk.1⟩)) hg hat); have n4_ := Aside0.mk (blk_grown (g := gb459) (o := .cells #[.int .i64 a1_0, .bool a1_1, .bool a1_2, .bool a1_3, .bool a1_4] 31 (0, 0)) (by (with_reducible repeat (first | refine blk_drewN ?_ _ | refine blk_drew ?_ | refine blk_alloc ?_ _)); exact BK459.out) hg (Kd.R_ne HO_8.out BK459.out (by decide))); have n5_ := Aside0.mk (hb); have n6_ := Aside0.mk (ho); clear HO_10; clear HO_12; clear HO_14; clear HO_16; clear BK459; clear HB; clear HO_8; have HO_10 := n0_; have HO_12 := n1_; have HO_14 := n2_; have HO_16 := n3_; have BK459 := n4_; have HB := n5_; have HO500 := n6_; clear n0_ n1_ n2_ n3_ n4_ n5_ n6_; clear ho hb hg hat; have hcv58 := own_string (P := Try.prog) Try.underlying22 Try.underlying5 Try.underlying9 (Kd.own_of_R HO_10.out); have hcv59 := own_string (P := Try.prog) Try.underlying22 Try.underlying5 Try.underlying9 (Kd.own_of_R HO_12.out); have hcv60 := own_string (P := Try.prog) Try.underlying22 Try.underlying5 Try.underlying9 (Kd.own_of_R HO_14.out); have hcv61 := own_string (P := Try.prog) Try.underlying22 Try.underlying5 Try.underlying9 (Kd.own_of_R HO_16.out)))
                      go_ret
                      exact ⟨by first | rfl | (simp [errW_none, errW_some] <;> rfl) | (simp [*, errW_none, errW_some] <;> rfl), by repeat (first | (with_reducible first | exact HB.out | apply below_alloc | apply pw_below_drewN | apply below_drew1 | refine below_set ?_ GE459.out) | exact HB.out)⟩
                    · rw [if_neg c55] at H
                      have c55b0 : ((strOfNums t475).toList == (strOfNums t479).toList) = false := beq_eq_false_iff_ne.mpr c55
                      have c55b1 : ((strOfNums t475).toList != (strOfNums t479).toList) = true := bne_iff_ne.mpr c55
                      obtain rfl := Option.some.inj H
                      obtain ⟨Ao62, co62, eo62⟩ := Kd.R_slice HO_8.out
                      subst eo62
                      go_wp2_with (first | ((with_reducible refine gate_builtin (b := .append) (xs := #[.tmp 97, .tmp 98]) rfl ?_); at_builtin; refine Kd.R_append (Kd.int .u8) (w0 := w) w.heap.size rfl (.tmp 97) (.tmp 98) 22 5 (.int .u8 0) 1 rfl Try.underlying22 info5 rfl (by decide) (by omega) (.slice Ao62 x8_2.length co62) x8_2 221 [.int .u8 221] (fun k_ => some k_ ≠ (v476 : Value).ownBlock ∧ some k_ ≠ (v480 : Value).ownBlock ∧ some k_ ≠ (v489 : Value).ownBlock ∧ some k_ ≠ (v493 : Value).ownBlock) (fun _ => False) rfl rfl ?aP (fun _ hk => hk.elim) ?aF ?aO ?aB ?aS ?aL ?_; (case aP => exact rfl); (case aB => exact (by repeat (first | (with_reducible first | exact HB.out | apply below_alloc | apply pw_below_drewN | apply below_drew1 | refine below_set ?_ GE459.out) | exact HB.out))); (case aF => exact (fun k_ hk => ⟨Kd.fresh' (Kd.R_lt (by (with_reducible repeat (first | apply Kd.R_alloc | apply Kd.R_drewN | apply Kd.R_drew)); exact HO_10.out)) k_ hk, Kd.fresh' (Kd.R_lt (by (with_reducible repeat (first | apply Kd.R_alloc | apply Kd.R_drewN | apply Kd.R_drew)); exact HO_12.out)) k_ hk, Kd.fresh' (Kd.R_lt (by (with_reducible repeat (first | apply Kd.R_alloc | apply Kd.R_drewN | apply Kd.R_drew)); exact HO_14.out)) k_ hk, Kd.fresh' (Kd.R_lt (by (with_reducible repeat (first | apply Kd.R_alloc | apply Kd.R_drewN | apply Kd.R_drew)); exact HO_16.out)) k_ hk⟩)); (case aO => exact (by (with_reducible repeat (first | apply Kd.R_alloc | apply Kd.R_drewN | apply Kd.R_drew)); exact HO_8.out)); (case aS => exact (below_size (by repeat (first | (with_reducible first | exact HB.out | apply below_alloc | apply pw_below_drewN | apply below_drew1 | refine below_set ?_ GE459.out) | exact HB.out)))); (case aL => have := LMc54.out; omega); intro v499 w63 ho hb hg hat; rw [← Ny498.out] at ho; have n0_ := Aside0.mk (Kd.R_after (ok := (fun k_ => some k_ ≠ (v480 : Value).ownBlock ∧ some k_ ≠ (v489 : Value).ownBlock ∧ some k_ ≠ (v493 : Value).ownBlock)) (by (with_reducible repeat (first | apply Kd.R_alloc | apply Kd.R_drewN | apply Kd.R_drew)); exact Kd.R_mono HO_10.out (fun _ hk => ⟨⟨hk.2.1, ⟨hk.2.2.1, hk.2.2.2⟩⟩, hk.1⟩)) hg hat); have n1_ := Aside0.mk (Kd.R_after (ok := (fun k_ => some k_ ≠ (v476 : Value).ownBlock ∧ some k_ ≠ (v489 : Value).ownBlock ∧ some k_ ≠ (v493 : Value).ownBlock)) (by (with_reducible repeat (first | apply Kd.R_alloc | apply Kd.R_drewN | apply Kd.R_drew)); exact Kd.R_mono HO_12.out (fun _ hk => ⟨⟨hk.2.1, ⟨hk.2.2.1, hk.2.2.2⟩⟩, hk.1⟩)) hg hat); have n2_ := Aside0.mk (Kd.R_after (ok := (fun k_ => some k_ ≠ (v476 : Value).ownBlock ∧ some k_ ≠ (v480 : Value).ownBlock ∧ some k_ ≠ (v493 : Value).ownBlock)) (by (with_reducible repeat (first | apply Kd.R_alloc | apply Kd.R_drewN | apply Kd.R_drew)); exact Kd.R_mono HO_14.out (fun _ hk => ⟨⟨hk.2.1, ⟨hk.2.2.1, hk.2.2.2⟩⟩, hk.1⟩)) hg hat); have n3_ := Aside0.mk (Kd.R_after (ok := (fun k_ => some k_ ≠ (v476 : Value).ownBlock ∧ some k_ ≠ (v480 : Value).ownBlock ∧ some k_ ≠ (v489 : Value).ownBlock)) (by (with_reducible repeat (first | apply Kd.R_alloc | apply Kd.R_drewN | apply Kd.R_drew)); exact Kd.R_mono HO_16.out (fun _ hk => ⟨⟨hk.2.1, ⟨hk.2.2.1, hk.2.2.2⟩⟩, hk.1⟩)) hg hat); have n4_ := Aside0.mk (blk_grown (g := gb459) (o := .cells #[.int .i64 a1_0, .bool a1_1, .bool a1_2, .bool a1_3, .bool a1_4] 31 (0, 0)) (by (with_reducible repeat (first | refine blk_drewN ?_ _ | refine blk_drew ?_ | refine blk_alloc ?_ _)); exact BK459.out) hg (Kd.R_ne HO_8.out BK459.out (by decide))); have n5_ := Aside0.mk (hb); have n6_ := Aside0.mk (ho); clear HO_10; clear HO_12; clear HO_14; clear HO_16; clear BK459; clear HB; clear HO_8; have HO_10 := n0_; have HO_12 := n1_; have HO_14 := n2_; have HO_16 := n3_; have BK459 := n4_; have HB := n5_; have HO500 := n6_; clear n0_ n1_ n2_ n3_ n4_ n5_ n6_; clear ho hb hg hat; have hcv64 := own_string (P := Try.prog) Try.underlying22 Try.underlying5 Try.underlying9 (Kd.own_of_R HO_10.out); have hcv65 := own_string (P := Try.prog) Try.underlying22 Try.underlying5 Try.underlying9 (Kd.own_of_R HO_12.out)))
                      go_ret
                      exact ⟨by first | rfl | (simp [errW_none, errW_some] <;> rfl) | (simp [*, errW_none, errW_some] <;> rfl), by repeat (first | (with_reducible first | exact HB.out | apply below_alloc | apply pw_below_drewN | apply below_drew1 | refine below_set ?_ GE459.out) | exact HB.out)⟩
                  · rw [if_neg c54] at H
                    exact absurd H (by simp)
    · rw [if_neg c6] at H
      exact absurd H (by simp)
  · rw [if_neg c5] at H
    exact absurd H (by simp)

end Go.Proofs.Ytnomebkdhjigjaa.GFrameEncodes
/- FrameEncodes: plain: the law's function is true. -/
namespace Go.Proofs.Ytnomebkdhjigjaa.Frm
open Go.RowKit Go.Proofs.Ytnomebkdhjigjaa.Z Go.Proofs.Ytnomebkdhjigjaa.GFrameEncodes Go.Proofs.YtnomebkdhjigjaaW.PrintWords Go.Proofs.YtnomebkdhjigjaaW.PrintMore
set_option linter.unusedVariables false
set_option linter.unusedSimpArgs false
theorem hand_f (l : List Int) (hl : l.length ≤ 1099511627776) : satchellaw04_hand.f l = some (l ++ [1, 2, 3, 4, 5]) := by
  unfold satchellaw04_hand.f
  rw [Option.bind_some, if_pos (by simp only [List.length_nil]; omega), Option.bind_some, Option.bind_some, if_pos (by simp; omega), List.nil_append]
theorem marks_eq (l : List Int) : (strOfNums l) ++ (⟨#[1, 2, 3, 4, 5]⟩ : ByteArray) = strOfNums (l ++ [1, 2, 3, 4, 5]) := by
  apply ByteArray.ext
  simp [strOfNums]
theorem left_loop (b : Bool) (k : Nat) : ∀ (d i : Nat) (x : List Int), i + d = x.length → x.length ≤ 1099511627800 → ∃ y, satchellaw04_left.l0 (k + d + 1) x b (i : Int) = some (b, y)
  | 0, i, x, h, hl => ⟨x, by rw [Nat.add_zero, satchellaw04_left.l0, if_neg (by omega)]⟩
  | d + 1, i, x, h, hl => by
    have hw : wrap64 ((i : Int) + 1) = ((i + 1 : Nat) : Int) := by rw [IntWalk.wrap64_in _ (by omega)]; omega
    rw [show k + (d + 1) + 1 = (k + d + 1) + 1 by omega, satchellaw04_left.l0, if_pos (by omega), if_pos (by omega), hw]
    exact left_loop b k d (i + 1) _ (by rw [List.length_set]; omega) (by rw [List.length_set]; omega)
theorem left_f (l : List Int) (hl : l.length ≤ 1099511627776) (k : Nat) (hk : l.length + 10 ≤ k) : ∃ y, satchellaw04_left.f k (l ++ [1, 2, 3, 4, 5]) l = some (true, y) := by
  unfold satchellaw04_left.f
  rw [if_pos (by rw [strOfNums_size]; omega), marks_eq, beq_self_eq_true]
  have h := left_loop true (k - (l ++ [1, 2, 3, 4, 5]).length - 1) (l ++ [1, 2, 3, 4, 5]).length 0 (l ++ [1, 2, 3, 4, 5]) (by omega) (by simp; omega)
  have e : (l ++ [1, 2, 3, 4, 5]).length = l.length + 5 := by simp
  rw [show k - (l ++ ([1, 2, 3, 4, 5] : List Int)).length - 1 + (l ++ ([1, 2, 3, 4, 5] : List Int)).length + 1 = k from by rw [e]; omega] at h
  exact h
theorem last_loop (x10 x14 : List Int) (k : Nat) : ∀ (d i : Nat) (x : List Int), i + d = x.length → x.length ≤ 1099511627800 → satchellaw04_FrameEncodes.l0 (k + d + 1) x x10 x10 x14 x14 (i : Int) = some true
  | 0, i, x, h, hl => by rw [Nat.add_zero, satchellaw04_FrameEncodes.l0, if_neg (by omega), if_pos (by omega), if_pos rfl, beq_self_eq_true]
  | d + 1, i, x, h, hl => by
    have hw : wrap64 ((i : Int) + 1) = ((i + 1 : Nat) : Int) := by rw [IntWalk.wrap64_in _ (by omega)]; omega
    rw [show k + (d + 1) + 1 = (k + d + 1) + 1 by omega, satchellaw04_FrameEncodes.l0, if_pos (by omega), if_pos (by omega), hw]
    exact last_loop x10 x14 k d (i + 1) _ (by rw [List.length_set]; omega) (by rw [List.length_set]; omega)
theorem flat_len (g : Nat → List Int) (hg : ∀ i, (g i).length ≤ 5000000) : ∀ (d i : Nat), ((List.range' i d).flatMap g).length ≤ d * 5000000
  | 0, i => by simp
  | d + 1, i => by
    rw [List.range'_succ, List.flatMap_cons, List.length_append]
    have := flat_len g hg d (i + 1)
    have := hg i
    omega
theorem encodeP_len (blk : Int) (a1 a2 a3 a4 : Bool) (plain : List Int) : (encodeP blk a1 a2 a3 a4 plain).1.length ≤ 400000000 := by
  unfold encodeP
  by_cases c : 4 ≤ blk ∧ blk ≤ 7
  · rw [if_pos c]
    by_cases c2 : plain.length ≤ 4194304
    · rw [if_pos c2]
      obtain ⟨hM0, hM1⟩ := big_in blk c.1 c.2
      have hn := count_max (bigOf blk) plain hM0 c2
      have h1 := flat_len (fun i => bodyOf a2 (pieceP (bigOf blk) plain i) (blkP (bigOf blk) a1 plain i)) (fun i => by
        have := body_len a2 (pieceP (bigOf blk) plain i) (blkP (bigOf blk) a1 plain i)
        have := piece_len (bigOf blk) plain i
        show (bodyOf a2 (pieceP (bigOf blk) plain i) (blkP (bigOf blk) a1 plain i)).length ≤ _
        omega) (countP (bigOf blk) plain) 0
      have h2 := head_len blk a1 a2 a3 a4 (plain.length : Int)
      have h3 : (tailP a3 plain).length ≤ 8 := by
        unfold tailP
        cases a3 <;> simp [le4]
      show (frameP blk a1 a2 a3 a4 plain).length ≤ _
      unfold frameP
      rw [List.length_append, List.length_append, List.length_append]
      simp only [List.length_cons, List.length_nil]
      omega
    · rw [if_neg c2]
      simp
  · rw [if_neg c]
    simp
theorem encodes_f (plain : List Int) (blk : Int) (a1 a2 a3 a4 : Bool) (user : Int) (hl : plain.length ≤ 1099511627776) (hb : BytM plain) : ∃ k, satchellaw04_FrameEncodes.f k plain blk a1 a2 a3 a4 user = some true := by
  have hE := encodeP_len blk a1 a2 a3 a4 plain
  obtain ⟨k, hk⟩ : ∃ k, k = (encodeP blk a1 a2 a3 a4 plain).1.length + plain.length + 1000 := ⟨_, rfl⟩
  obtain ⟨h1, h2⟩ := encode_all blk a1 a2 a3 a4 plain hb k (by omega)
  obtain ⟨h3, h4⟩ := skip_all user plain k (by omega)
  obtain ⟨y, hy⟩ := left_f plain hl k (by omega)
  refine ⟨k, ?_⟩
  unfold satchellaw04_FrameEncodes.f
  rw [hand_f plain hl, Option.bind_some, if_pos (by omega), if_pos (by rw [List.length_append]; omega), Int.toNat_natCast, List.take_left, h1, Option.bind_some, Option.bind_some, h2, Option.bind_some, h3, Option.bind_some, h4, Option.bind_some, if_pos rfl, if_pos rfl, if_pos rfl, if_pos rfl, hy, Option.bind_some]
  obtain ⟨q, rfl⟩ : ∃ q, k = q + 1 := ⟨k - 1, by omega⟩
  rw [satchellaw04_FrameEncodes.j0, if_neg (by simp)]
  have h := last_loop (encodeP blk a1 a2 a3 a4 plain).1 (skipP user plain).1 (q - (encodeP blk a1 a2 a3 a4 plain).1.length - 1) (encodeP blk a1 a2 a3 a4 plain).1.length 0 (encodeP blk a1 a2 a3 a4 plain).1 (by omega) (by omega)
  rw [show q - (encodeP blk a1 a2 a3 a4 plain).1.length - 1 + (encodeP blk a1 a2 a3 a4 plain).1.length + 1 = q by omega] at h
  exact h
end Go.Proofs.Ytnomebkdhjigjaa.Frm
/- What the bound on bulk gives, and arguments opened by their shape: bytes, lists of bytes, lists of truths. Plain facts for the laws' last texts. -/
namespace Go.Proofs.Ytnomebkdhjigjaa.Bu
open Go.ChangeShapes Go.WideShapes Go.Deep
set_option linter.unusedVariables false
theorem one_le {H : Type} (d : DataW H) : 1 ≤ Rows.uptoBulk d := by
  cases d with
  | lit l => cases l <;> simp [Rows.uptoBulk]
  | nil => simp [Rows.uptoBulk]
  | ptr d => simp [Rows.uptoBulk]
  | slice elems spare => simp [Rows.uptoBulk]
  | agg parts => simp [Rows.uptoBulk]
  | iface t d => simp [Rows.uptoBulk]
  | map entries => simp [Rows.uptoBulk]
  | held h => simp [Rows.uptoBulk]
theorem part_le {H : Type} {d : DataW H} {l : List (DataW H)} (h : d ∈ l) : Rows.uptoBulk d ≤ Rows.uptoBulkAll l := by
  induction l with
  | nil => cases h
  | cons x r ih =>
    simp only [Rows.uptoBulkAll]
    cases List.mem_cons.1 h with
    | inl e => subst e; omega
    | inr e => have := ih e; omega
theorem len_le {H : Type} (l : List (DataW H)) : l.length ≤ Rows.uptoBulkAll l := by
  induction l with
  | nil => simp [Rows.uptoBulkAll]
  | cons x r ih => have := one_le x; simp only [Rows.uptoBulkAll, List.length_cons]; omega
theorem small {H : Type} {l : List (DataW H)} (h : Rows.uptoSmall H l = true) : Rows.uptoBulkAll l ≤ 1048576 := of_decide_eq_true h
section
variable {H : Type} {enc : TypeId × Value → H} {P : Program} {w : World} {base : Nat} {held : Bool}
/-- A list of numbers of one cell, as it lies. -/
theorem open_nums {t e : TypeId} {k : IntKind} {A : Option Addr} {len cap : Nat} {d : DataW H} {ps : List MemPlace} (ht : P.underlying t = some (.slice e)) (he : P.underlying e = some (.int k)) (hc : P.cellsOf e = 1)
    (h : DataW.Trod enc P w base (fun _ => true) held t (.slice A len cap) d ps) :
    ∃ zs : List Int, zs.length = len ∧ len ≤ cap ∧ cap ≤ maxLen ∧ len ≤ Rows.uptoBulk d ∧ (A = none → cap = 0) ∧ (∀ n ∈ zs, (Lit.int k n).wf = true) ∧ ∀ a, A = some a → ∀ i, i < len → w.cell? (a.add i) = some (.int k (zs.getD i 0)) := by
  obtain ⟨fuel, hf⟩ := h
  rcases open_ints ht he hc hf with ⟨hcs, hx⟩ | ⟨x, l, c, zs, hcs, _, hl, hm, hz, hx, hcell, hwz⟩
  · simp [Value.cells] at hcs
    obtain ⟨rfl, rfl, rfl⟩ := hcs
    exact ⟨[], rfl, Nat.le_refl _, Nat.zero_le _, Nat.zero_le _, fun _ => rfl, by simp, fun _ _ i hi => absurd hi (Nat.not_lt_zero _)⟩
  · simp [Value.cells] at hcs
    obtain ⟨rfl, rfl, rfl⟩ := hcs
    simp only [Prod.mk.injEq] at hx
    obtain ⟨rfl, _⟩ := hx
    have hz' : zs.length = cap := by simpa using hz
    refine ⟨zs.take len, by rw [List.length_take]; omega, hl, hm, ?_, (fun h => by cases h), fun n hn => hwz n (List.mem_of_mem_take hn), fun a ha i hi => ?_⟩
    · have h := len_le (H := H) (lits k (zs.take len))
      have e : (lits (H := H) k (zs.take len)).length = len := by simp [lits]; omega
      simp only [Rows.uptoBulk]
      omega
    · cases ha
      rw [hcell i (by omega), List.getD_eq_getElem?_getD, List.getD_eq_getElem?_getD, List.getElem?_take, if_pos hi]
end
end Go.Proofs.Ytnomebkdhjigjaa.Bu
/- A Shape as an argument, opened. -/
namespace Go.Proofs.Ytnomebkdhjigjaa.Bu
open Go.RowKit Go.ChangeShapes Go.WideShapes Go.Deep
set_option linter.unusedVariables false
set_option linter.unusedSimpArgs false
theorem five_of {α : Type} (cs : Array α) (h : cs.size = 5) : ∃ a b c d e, cs = #[a, b, c, d, e] := by
  obtain ⟨l⟩ := cs
  match l, h with
  | [a, b, c, d, e], _ => exact ⟨a, b, c, d, e, rfl⟩
set_option maxRecDepth 100000 in
theorem open_shape {H : Type} {enc : TypeId × Value → H} {w : World} {base : Nat} {spare : TypeId → Bool} {held : Bool} {r : Reach} {b0 : Nat} {v : Value} {d : DataW H} {p : List MemPlace}
    (hv : Value.okWide Try.prog w r b0 31 v) (h : DataW.Trod enc Try.prog w base spare held 31 v d p) :
    ∃ (blk : Int) (a1 a2 a3 a4 : Bool), v = .agg #[.int .i64 blk, .bool a1, .bool a2, .bool a3, .bool a4] := by
  obtain ⟨cs, rfl, hsz⟩ := okWide_struct Try.underlying31 hv
  have hC : Try.prog.cellsOf 31 = 5 := by kernel_rfl
  obtain ⟨c0, c1, c2, c3, c4, rfl⟩ := five_of cs (hsz.trans hC)
  obtain ⟨fuel, hf⟩ := h
  obtain ⟨xs, n, _, -, _, hlen, hq⟩ := DataW.trod_struct Try.underlying31 hf
  have k3 : Try.prog.cellsOf 3 = 1 := by kernel_rfl
  have k4 : Try.prog.cellsOf 4 = 1 := by kernel_rfl
  match xs, hlen with
  | [y0, y1, y2, y3, y4], _ =>
    have t0 : DataW.trod enc Try.prog w base spare held n 3 [c0] = some y0 := by simpa [Value.cells, k3] using hq 0 _ rfl
    have t1 : DataW.trod enc Try.prog w base spare held n 4 [c1] = some y1 := by simpa [Value.cells, k4] using hq 1 _ rfl
    have t2 : DataW.trod enc Try.prog w base spare held n 4 [c2] = some y2 := by simpa [Value.cells, k4] using hq 2 _ rfl
    have t3 : DataW.trod enc Try.prog w base spare held n 4 [c3] = some y3 := by simpa [Value.cells, k4] using hq 3 _ rfl
    have t4 : DataW.trod enc Try.prog w base spare held n 4 [c4] = some y4 := by simpa [Value.cells, k4] using hq 4 _ rfl
    obtain ⟨b0_, f0, g0, x0⟩ := DataW.trod_int Try.underlying3 t0
    obtain ⟨b1_, f1, g1⟩ := DataW.trod_bool Try.underlying4 t1
    obtain ⟨b2_, f2, g2⟩ := DataW.trod_bool Try.underlying4 t2
    obtain ⟨b3_, f3, g3⟩ := DataW.trod_bool Try.underlying4 t3
    obtain ⟨b4_, f4, g4⟩ := DataW.trod_bool Try.underlying4 t4
    simp only [List.cons.injEq, and_true] at f0 f1 f2 f3 f4
    subst f0 f1 f2 f3 f4
    exact ⟨b0_, b1_, b2_, b3_, b4_, rfl⟩
theorem bytM_wf {l : List Int} (h : ∀ x ∈ l, (Lit.int .u8 x).wf = true) : ∀ x ∈ l, 0 ≤ x ∧ x < 256 := fun x hx => by
  have h := h x hx
  simp only [Lit.wf, show IntKind.u8.min = 0 from rfl, show IntKind.u8.max = 255 from rfl, Bool.and_eq_true, decide_eq_true_eq] at h
  omega
end Go.Proofs.Ytnomebkdhjigjaa.Bu
