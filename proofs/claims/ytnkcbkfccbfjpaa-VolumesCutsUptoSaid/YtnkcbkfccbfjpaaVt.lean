/- Lists of lists in memory of their own, apart from each other. -/
import Derived.Test.YtnkcbkfccbfjpaaVg
import Derived.Test.YtnkcbkfccbfjpaaVh
import Derived.Test.YtnkcbkfccbfjpaaVa
namespace Go.Proofs.Ytnkcbkfccbfjpaa.XxhW
open Go.RowKit Go.Proofs.Ytnkcbkfccbfjpaa.QVolumesCuts Go.Proofs.YtnkcbkfccbfjpaaW.PrintWords Go.Proofs.YtnkcbkfccbfjpaaW.PrintLast Go.Proofs.YtnkcbkfccbfjpaaW.PrintMore
set_option linter.unusedVariables false
set_option linter.unusedSimpArgs false
theorem Sep.join {w0 w1 w2 : World} {l1 l2 : List Res} (h : Sep w0 w1 l1) (h' : Sep w1 w2 l2) : Sep w0 w2 (l2 ++ l1) := by
  have k := h.keep h'.B
  refine ⟨k.B, ?_, ?_, ?_⟩
  · intro r hr
    rcases List.mem_append.1 hr with hr | hr
    · exact h'.h r hr
    · exact k.h r hr
  · intro r hr i hi
    rcases List.mem_append.1 hr with hr | hr
    · exact Nat.le_trans h.size (h'.ge r hr i hi)
    · exact k.ge r hr i hi
  · refine List.pairwise_append.2 ⟨h'.ne, k.ne, fun r hr s hs i h1 h2 => ?_⟩
    have a := h'.ge r hr i h1
    have b := s.lt w1 (h.h s hs) i h2
    omega
theorem own_sliceN {w : World} {B e size n : Nat} {v : Value} {xs : List Value} (h : w.ownsRow B e size v n xs) (hn : 0 < n) : ∃ g cp, v = .slice (some ⟨g, 0, none⟩) n cp ∧ n ≤ cp := by
  rcases h.2 with ⟨_, h0⟩ | ⟨g, cap, cur, rfl, _, _, h1, _⟩
  · omega
  · exact ⟨g, cap, rfl, h1⟩
theorem own_reads2 {w : World} {B c : Nat} {A : Option Addr} {l : List Int} (h : w.ownsRow B 5 1 (.slice A l.length c) l.length (nums .u8 l)) : ReadsInt w .u8 A l.length l ∧ l.length ≤ c := by
  have hr := Kd.R_reads' (Kd.R_of_own (enc := Value.int .u8) (h1 := fun _ => rfl) (ok := fun _ => True) h (fun _ _ => trivial))
  exact ⟨reads_of_C2 hr.2.2, hr.2.1⟩
theorem fr_kept {w0 w w' : World} {S : Nat → Prop} (h : Kept w w' S) (b : Below w0.heap.size w0 w) (b' : Below w0.heap.size w0 w') : Fr w w' (fun i => ¬ S i) :=
  ⟨b'.os.trans b.os.symm, b'.tape.trans b.tape.symm, b'.output.trans b.output.symm, h.1, fun i hi hs => h.2 i hi hs⟩
/-- One that is first is gone. -/
theorem Sep.spend {w0 w w' : World} {r : Res} {l : List Res} (h : Sep w0 w (r :: l)) (f : Fr w w' (fun i => ¬ r.foot i)) : Sep w0 w' l :=
  (h.upd 0 r (Res.pure True) rfl trivial f (fun i hi => hi.elim)).drop 0
theorem lent_reads {w : World} {B g cp : Nat} {b LL : List Int} (hLL : LL = b ++ marks 32) (h : w.ownsRow B 5 1 (.slice (some ⟨g, 0, none⟩) LL.length cp) LL.length (nums .u8 LL)) : ReadsInt w .u8 (some ⟨g, 0, none⟩) b.length b ∧ ReadsInt w .u8 (some ⟨g, 0, none⟩) LL.length LL := by
  obtain ⟨hr, hc⟩ := own_reads2 h
  refine ⟨⟨rfl, by have := hr.2.1; rw [hLL, List.length_append] at this; omega, fun h0 => ⟨_, rfl, fun j hj => ?_⟩⟩, hr⟩
  obtain ⟨ad, e, hx⟩ := hr.2.2 (by rw [hLL, List.length_append]; omega)
  cases e
  rw [hx j (by rw [hLL, List.length_append]; omega), hLL, List.getD_eq_getElem?_getD, List.getElem?_append_left hj, ← List.getD_eq_getElem?_getD]
theorem own_some' {w : World} {B e size n c : Nat} {A : Option Addr} {xs : List Value} (h : w.ownsRow B e size (.slice A n c) n xs) (hn : 0 < n) : ∃ g, A = some ⟨g, 0, none⟩ := by
  obtain ⟨g, cp, e, _⟩ := own_sliceN h hn
  injection e with e
  exact ⟨g, e⟩
theorem Sep.perm {w0 w : World} {l l' : List Res} (h : Sep w0 w l) (p : l.Perm l') : Sep w0 w l' :=
  ⟨h.B, fun r hr => h.h r (p.mem_iff.2 hr), fun r hr => h.ge r (p.mem_iff.2 hr), (p.pairwise_iff (fun {a b} hab i h1 h2 => hab i h2 h1)).1 h.ne⟩
/-- One row of a list of rows. -/
def innerL (B : Nat) (p : Value × List Int) : Res := Res.row B 5 1 p.2.length p.1 (nums .u8 p.2)
def rowsL (B : Nat) (v : Value) (L : List (Value × List Int)) : List Res := L.map (innerL B) ++ [Res.row B 22 1 L.length v (L.map (·.1))]
theorem S_rows {w0 w : World} {v : Value} {xs : List (List Int)} (h : Kd.S (Kd.slice 5 (Kd.int .u8)) 22 w w0.heap.size (fun _ => True) v xs) (hb : Below w0.heap.size w0 w) : ∃ L : List (Value × List Int), L.map (·.2) = xs ∧ Sep w0 w (rowsL w0.heap.size v L) := by
  obtain ⟨f, h0, inner, ho, hr⟩ := h
  rw [List.length_zipIdx] at ho
  have hil : inner.length = xs.length := by
    have := hr.1
    rw [List.length_zipIdx] at this
    have e : (Kd.tag f (Kd.slice 5 (Kd.int .u8))).sz = 1 := rfl
    rw [e, Nat.mul_one] at this
    exact this
  have hin : ∀ j, j < xs.length → ∃ c, inner[j]? = some c ∧ w.ownsRow w0.heap.size 5 1 c (xs.getD j []).length (nums .u8 (xs.getD j [])) ∧ (∀ k, c.ownBlock = some k → some k ≠ v.ownBlock ∧ f k = j) := by
    intro j hj
    have hx : xs[j]? = some (xs.getD j []) := by rw [List.getD_eq_getElem?_getD, List.getElem?_eq_getElem hj, Option.getD_some]
    have hm := hr.2 j (xs.getD j [], j) (Kd.zip_at hx)
    have hm' : ∃ c, (inner.drop (j * 1)).take 1 = [c] ∧ (Kd.int .u8).R 5 w w0.heap.size (fun k => (True ∧ some k ≠ v.ownBlock) ∧ f k = j) c (xs.getD j []) := hm
    obtain ⟨c, hc, hR⟩ := hm'
    obtain ⟨g0, inn, hio, hir⟩ := hR
    have hcells := Kd.R_of_own (enc := Value.int .u8) (h1 := fun _ => rfl) (e := 5) (ok := fun _ => True) (w := w) (base := w0.heap.size) (v := c) (xs := xs.getD j [])
    refine ⟨c, ?_, ?_, fun k hk => ⟨(g0 k hk).1.2, (g0 k hk).2⟩⟩
    · have h1 : ((inner.drop (j * 1)).take 1)[0]? = some c := by rw [hc]; rfl
      rw [List.getElem?_take_of_lt (by decide), List.getElem?_drop, Nat.mul_one, Nat.add_zero] at h1
      exact h1
    · have e : inn = nums .u8 (xs.getD j []) := by
        apply List.ext_getElem?
        intro q
        have hsz : (Kd.int .u8).sz = 1 := rfl
        have hlen : inn.length = (xs.getD j []).length := by
          have h2 := hir.1
          rw [hsz, Nat.mul_one] at h2
          exact h2
        rcases Nat.lt_or_ge q (xs.getD j []).length with c1 | c1
        · have hq : (xs.getD j [])[q]? = some ((xs.getD j [])[q]) := List.getElem?_eq_getElem c1
          have h3 := hir.2 q _ hq
          have h4 : (inn.drop (q * 1)).take 1 = [.int .u8 ((xs.getD j [])[q])] := h3
          have h5 : ((inn.drop (q * 1)).take 1)[0]? = some (.int .u8 ((xs.getD j [])[q])) := by rw [h4]; rfl
          rw [List.getElem?_take_of_lt (by decide), List.getElem?_drop, Nat.mul_one, Nat.add_zero] at h5
          rw [h5]
          simp only [nums, List.getElem?_map, hq, Option.map_some]
        · rw [List.getElem?_eq_none (by omega), List.getElem?_eq_none (by rw [nums, List.length_map]; omega)]
      rw [← e]
      exact hio
  refine ⟨(List.range xs.length).map (fun j => (inner.getD j (.bool false), xs.getD j [])), ?_, ?_⟩
  · apply List.ext_getElem?
    intro q
    rw [List.map_map]
    rcases Nat.lt_or_ge q xs.length with c1 | c1
    · simp [c1, List.getD_eq_getElem?_getD]
    · simp [c1]
  · have hfst : ((List.range xs.length).map (fun j => (inner.getD j (Value.bool false), xs.getD j []))).map (·.1) = inner := by
      apply List.ext_getElem?
      intro q
      rw [List.map_map]
      rcases Nat.lt_or_ge q xs.length with c1 | c1
      · obtain ⟨c, hc, _⟩ := hin q c1
        simp [c1, List.getD_eq_getElem?_getD, hc]
      · rw [List.getElem?_eq_none (by simpa using c1), List.getElem?_eq_none (by omega)]
    unfold rowsL
    rw [hfst, List.map_map, List.length_map, List.length_range]
    have hr0 : ∀ r ∈ (List.range xs.length).map (innerL w0.heap.size ∘ fun j => (inner.getD j (Value.bool false), xs.getD j [])), ∃ j, j < xs.length ∧ ∃ c, inner[j]? = some c ∧ r = Res.row w0.heap.size 5 1 (xs.getD j []).length c (nums .u8 (xs.getD j [])) := by
      intro r hr
      obtain ⟨j, hj, rfl⟩ := List.mem_map.1 hr
      have hj := List.mem_range.1 hj
      obtain ⟨c, hc, _⟩ := hin j hj
      refine ⟨j, hj, c, hc, ?_⟩
      show Res.row w0.heap.size 5 1 _ (inner.getD j (Value.bool false)) _ = _
      rw [List.getD_eq_getElem?_getD, hc, Option.getD_some]
    refine ⟨hb, ?_, ?_, ?_⟩
    · intro r hr
      rcases List.mem_append.1 hr with hr | hr
      · obtain ⟨j, hj, c, hc, rfl⟩ := hr0 r hr
        obtain ⟨c', hc', ho', _⟩ := hin j hj
        rw [hc] at hc'
        injection hc' with e
        subst e
        exact ho'
      · rw [List.mem_singleton.1 hr]
        exact ho
    · intro r hr i hi
      rcases List.mem_append.1 hr with hr | hr
      · obtain ⟨j, hj, c, hc, rfl⟩ := hr0 r hr
        obtain ⟨c', hc', ho', _⟩ := hin j hj
        rw [hc] at hc'
        injection hc' with e
        subst e
        exact (own_ge ho' i hi).1
      · rw [List.mem_singleton.1 hr] at hi
        exact (own_ge ho i hi).1
    · refine List.pairwise_append.2 ⟨?_, List.pairwise_singleton _ _, ?_⟩
      · rw [List.pairwise_map]
        refine List.Pairwise.imp_of_mem ?_ (List.nodup_range)
        intro a b ha hb2 hne i hi hi2
        have ha := List.mem_range.1 ha
        have hb2 := List.mem_range.1 hb2
        obtain ⟨c, hc, _, hf⟩ := hin a ha
        obtain ⟨c2, hc2, _, hf2⟩ := hin b hb2
        have e1 : some i = (inner.getD a (Value.bool false)).ownBlock := hi
        have e2 : some i = (inner.getD b (Value.bool false)).ownBlock := hi2
        rw [List.getD_eq_getElem?_getD, hc, Option.getD_some] at e1
        rw [List.getD_eq_getElem?_getD, hc2, Option.getD_some] at e2
        have q1 := (hf i e1.symm).2
        have q2 := (hf2 i e2.symm).2
        exact hne (q1.symm.trans q2)
      · intro r hr s hs i hi hi2
        obtain ⟨j, hj, c, hc, rfl⟩ := hr0 r hr
        obtain ⟨c', hc', _, hf⟩ := hin j hj
        rw [hc] at hc'
        injection hc' with e
        subst e
        rw [List.mem_singleton.1 hs] at hi2
        have e1 : some i = c.ownBlock := hi
        exact (hf i e1.symm).1 hi2
end Go.Proofs.Ytnkcbkfccbfjpaa.XxhW
