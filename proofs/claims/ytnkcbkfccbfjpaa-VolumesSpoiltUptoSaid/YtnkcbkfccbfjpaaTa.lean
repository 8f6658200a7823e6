/- get of volumes (f67): the ways behind the head. -/
import Derived.Test.YtnkcbkfccbfjpaaTc
namespace Go.Proofs.Ytnkcbkfccbfjpaa.XxhW
open Go.RowKit Go.Proofs.Ytnkcbkfccbfjpaa.QVolumesCuts Go.Proofs.YtnkcbkfccbfjpaaW.PrintWords Go.Proofs.YtnkcbkfccbfjpaaW.PrintLast Go.Proofs.YtnkcbkfccbfjpaaW.PrintMore
set_option linter.unusedVariables false
set_option linter.unusedSimpArgs false
set_option maxHeartbeats 16000000 in
set_option maxRecDepth 100000 in
theorem get_rest (A : Option Addr) (c : Nat) (b : List Int) (w : World) (hr : ReadsInt w .u8 A b.length b) (hc : b.length ≤ c) (h64 : 64 ≤ b.length) (hl : b.length ≤ 100000000) (hb : ∀ q, 0 ≤ b.getD q 0 ∧ b.getD q 0 < 256) (hm : ((strOfNums (b.take 8)).toList == [83, 65, 84, 67, 72, 86, 79, 76]) = true)
    (hh : numP (b.drop 60) 4 = crc (b.take 60)) (h56 : numP (b.drop 56) 4 = 0) (hfl : numP (b.drop 24) 4 ≤ 1)
    (v0 v1 v2 : Int) (v3 : Bool) (v4 v5 v6 : Int) (hv0 : numP (b.drop 8) 8 = v0) (hv1 : numP (b.drop 16) 4 = v1) (hv2 : numP (b.drop 20) 4 = v2) (hv3 : (numP (b.drop 24) 4 == 1) = v3) (hv4 : wrap64 (numP (b.drop 28) 8) = v4) (hv5 : wrap64 (numP (b.drop 36) 8) = v5) (hv6 : wrap64 (numP (b.drop 44) 8) = v6)
    (kc : Nat) (cn : Bool) (hcan : volumes_volume_can.f kc v0 v1 v2 v3 v4 v5 v6 (b.drop 64) = some cn) :
    Calls Try.prog 67 #[.slice A b.length c] w fun e w' => ((cn = false ∨ v6 ≠ ((b.drop 64).length : Int)) → e = .returned (.tuple #[.agg #[.int .u64 0, .int .i64 0, .int .i64 0, .bool false, .int .i64 0, .int .i64 0, .int .i64 0, .slice none 0 0], .int .i64 270])) ∧
      (cn = true → v6 = ((b.drop 64).length : Int) → numP (b.drop 52) 4 ≠ crc (b.drop 64) → e = .returned (.tuple #[.agg #[.int .u64 0, .int .i64 0, .int .i64 0, .bool false, .int .i64 0, .int .i64 0, .int .i64 0, .slice none 0 0], .int .i64 131])) ∧
      (cn = true → v6 = ((b.drop 64).length : Int) → numP (b.drop 52) 4 = crc (b.drop 64) → ∃ A' : Option Addr, e = .returned (.tuple #[.agg #[.int .u64 v0, .int .i64 v1, .int .i64 v2, .bool v3, .int .i64 v4, .int .i64 v5, .int .i64 v6, .slice A' (b.drop 64).length (c - 64)], .int .i64 0]) ∧ ReadsInt w .u8 A' (b.drop 64).length (b.drop 64)) ∧ Below w.heap.size w w' := by
  obtain ⟨i0, hi, _, hsz, _⟩ := info_parts info5
  have hbd : ∀ m q, 0 ≤ (b.drop m).getD q 0 ∧ (b.drop m).getD q 0 < 256 := fun m q => by
    rw [List.getD_eq_getElem?_getD, List.getElem?_drop, ← List.getD_eq_getElem?_getD]
    exact hb _
  have HR := Aside0.mk hr
  obtain ⟨A8, k8, r8, l8⟩ := print_drop_of (P := Try.prog) (Value.int .u8) 0 22 5 .i64 Try.underlying22 hi hsz A c b 8 (by decide) (by omega) hc
  rw [show ((8 : Int)).toNat = 8 from rfl] at k8 r8 l8
  have n8 : volumes_number.f 9 (b.drop 8) 8 = some (numP (b.drop 8) 8) := nm_f 9 (b.drop 8) 8 (by decide) (by rw [List.length_drop]; omega) (hbd 8) (by decide)
  obtain ⟨b8, e8⟩ : ∃ x, x = b.drop 8 := ⟨_, rfl⟩
  rw [← e8] at k8 r8 l8 n8 hv0
  obtain ⟨u8, eu8⟩ : ∃ x, x = numP b8 8 := ⟨_, rfl⟩
  rw [← eu8] at n8 hv0
  have H8 := Aside0.mk (fun (W : World) (h : Below w.heap.size w W) => volumes_number.calls 9 A8 (c - 8) b8 8 _ W (Kd.C_of_reads (enc := Value.int .u8) (d := (0 : Int)) (h1 := fun _ => rfl) (r8 W (HR.out.below h))) l8 n8)
  obtain ⟨A16, k16, r16, l16⟩ := print_drop_of (P := Try.prog) (Value.int .u8) 0 22 5 .i64 Try.underlying22 hi hsz A c b 16 (by decide) (by omega) hc
  rw [show ((16 : Int)).toNat = 16 from rfl] at k16 r16 l16
  have n16 : volumes_number.f 9 (b.drop 16) 4 = some (numP (b.drop 16) 4) := nm_f 9 (b.drop 16) 4 (by decide) (by rw [List.length_drop]; omega) (hbd 16) (by decide)
  obtain ⟨b16, e16⟩ : ∃ x, x = b.drop 16 := ⟨_, rfl⟩
  rw [← e16] at k16 r16 l16 n16 hv1
  obtain ⟨u16, eu16⟩ : ∃ x, x = numP b16 4 := ⟨_, rfl⟩
  rw [← eu16] at n16 hv1
  have H16 := Aside0.mk (fun (W : World) (h : Below w.heap.size w W) => volumes_number.calls 9 A16 (c - 16) b16 4 _ W (Kd.C_of_reads (enc := Value.int .u8) (d := (0 : Int)) (h1 := fun _ => rfl) (r16 W (HR.out.below h))) l16 n16)
  obtain ⟨A20, k20, r20, l20⟩ := print_drop_of (P := Try.prog) (Value.int .u8) 0 22 5 .i64 Try.underlying22 hi hsz A c b 20 (by decide) (by omega) hc
  rw [show ((20 : Int)).toNat = 20 from rfl] at k20 r20 l20
  have n20 : volumes_number.f 9 (b.drop 20) 4 = some (numP (b.drop 20) 4) := nm_f 9 (b.drop 20) 4 (by decide) (by rw [List.length_drop]; omega) (hbd 20) (by decide)
  obtain ⟨b20, e20⟩ : ∃ x, x = b.drop 20 := ⟨_, rfl⟩
  rw [← e20] at k20 r20 l20 n20 hv2
  obtain ⟨u20, eu20⟩ : ∃ x, x = numP b20 4 := ⟨_, rfl⟩
  rw [← eu20] at n20 hv2
  have H20 := Aside0.mk (fun (W : World) (h : Below w.heap.size w W) => volumes_number.calls 9 A20 (c - 20) b20 4 _ W (Kd.C_of_reads (enc := Value.int .u8) (d := (0 : Int)) (h1 := fun _ => rfl) (r20 W (HR.out.below h))) l20 n20)
  obtain ⟨A24, k24, r24, l24⟩ := print_drop_of (P := Try.prog) (Value.int .u8) 0 22 5 .i64 Try.underlying22 hi hsz A c b 24 (by decide) (by omega) hc
  rw [show ((24 : Int)).toNat = 24 from rfl] at k24 r24 l24
  have n24 : volumes_number.f 9 (b.drop 24) 4 = some (numP (b.drop 24) 4) := nm_f 9 (b.drop 24) 4 (by decide) (by rw [List.length_drop]; omega) (hbd 24) (by decide)
  obtain ⟨b24, e24⟩ : ∃ x, x = b.drop 24 := ⟨_, rfl⟩
  rw [← e24] at k24 r24 l24 n24 hv3
  obtain ⟨u24, eu24⟩ : ∃ x, x = numP b24 4 := ⟨_, rfl⟩
  rw [← eu24] at n24 hv3
  have H24 := Aside0.mk (fun (W : World) (h : Below w.heap.size w W) => volumes_number.calls 9 A24 (c - 24) b24 4 _ W (Kd.C_of_reads (enc := Value.int .u8) (d := (0 : Int)) (h1 := fun _ => rfl) (r24 W (HR.out.below h))) l24 n24)
  obtain ⟨A28, k28, r28, l28⟩ := print_drop_of (P := Try.prog) (Value.int .u8) 0 22 5 .i64 Try.underlying22 hi hsz A c b 28 (by decide) (by omega) hc
  rw [show ((28 : Int)).toNat = 28 from rfl] at k28 r28 l28
  have n28 : volumes_number.f 9 (b.drop 28) 8 = some (numP (b.drop 28) 8) := nm_f 9 (b.drop 28) 8 (by decide) (by rw [List.length_drop]; omega) (hbd 28) (by decide)
  obtain ⟨b28, e28⟩ : ∃ x, x = b.drop 28 := ⟨_, rfl⟩
  rw [← e28] at k28 r28 l28 n28 hv4
  obtain ⟨u28, eu28⟩ : ∃ x, x = numP b28 8 := ⟨_, rfl⟩
  rw [← eu28] at n28 hv4
  have H28 := Aside0.mk (fun (W : World) (h : Below w.heap.size w W) => volumes_number.calls 9 A28 (c - 28) b28 8 _ W (Kd.C_of_reads (enc := Value.int .u8) (d := (0 : Int)) (h1 := fun _ => rfl) (r28 W (HR.out.below h))) l28 n28)
  obtain ⟨A36, k36, r36, l36⟩ := print_drop_of (P := Try.prog) (Value.int .u8) 0 22 5 .i64 Try.underlying22 hi hsz A c b 36 (by decide) (by omega) hc
  rw [show ((36 : Int)).toNat = 36 from rfl] at k36 r36 l36
  have n36 : volumes_number.f 9 (b.drop 36) 8 = some (numP (b.drop 36) 8) := nm_f 9 (b.drop 36) 8 (by decide) (by rw [List.length_drop]; omega) (hbd 36) (by decide)
  obtain ⟨b36, e36⟩ : ∃ x, x = b.drop 36 := ⟨_, rfl⟩
  rw [← e36] at k36 r36 l36 n36 hv5
  obtain ⟨u36, eu36⟩ : ∃ x, x = numP b36 8 := ⟨_, rfl⟩
  rw [← eu36] at n36 hv5
  have H36 := Aside0.mk (fun (W : World) (h : Below w.heap.size w W) => volumes_number.calls 9 A36 (c - 36) b36 8 _ W (Kd.C_of_reads (enc := Value.int .u8) (d := (0 : Int)) (h1 := fun _ => rfl) (r36 W (HR.out.below h))) l36 n36)
  obtain ⟨A44, k44, r44, l44⟩ := print_drop_of (P := Try.prog) (Value.int .u8) 0 22 5 .i64 Try.underlying22 hi hsz A c b 44 (by decide) (by omega) hc
  rw [show ((44 : Int)).toNat = 44 from rfl] at k44 r44 l44
  have n44 : volumes_number.f 9 (b.drop 44) 8 = some (numP (b.drop 44) 8) := nm_f 9 (b.drop 44) 8 (by decide) (by rw [List.length_drop]; omega) (hbd 44) (by decide)
  obtain ⟨b44, e44⟩ : ∃ x, x = b.drop 44 := ⟨_, rfl⟩
  rw [← e44] at k44 r44 l44 n44 hv6
  obtain ⟨u44, eu44⟩ : ∃ x, x = numP b44 8 := ⟨_, rfl⟩
  rw [← eu44] at n44 hv6
  have H44 := Aside0.mk (fun (W : World) (h : Below w.heap.size w W) => volumes_number.calls 9 A44 (c - 44) b44 8 _ W (Kd.C_of_reads (enc := Value.int .u8) (d := (0 : Int)) (h1 := fun _ => rfl) (r44 W (HR.out.below h))) l44 n44)
  obtain ⟨A52, k52, r52, l52⟩ := print_drop_of (P := Try.prog) (Value.int .u8) 0 22 5 .i64 Try.underlying22 hi hsz A c b 52 (by decide) (by omega) hc
  rw [show ((52 : Int)).toNat = 52 from rfl] at k52 r52 l52
  have n52 : volumes_number.f 9 (b.drop 52) 4 = some (numP (b.drop 52) 4) := nm_f 9 (b.drop 52) 4 (by decide) (by rw [List.length_drop]; omega) (hbd 52) (by decide)
  obtain ⟨b52, e52⟩ : ∃ x, x = b.drop 52 := ⟨_, rfl⟩
  rw [← e52] at k52 r52 l52 n52
  obtain ⟨u52, eu52⟩ : ∃ x, x = numP b52 4 := ⟨_, rfl⟩
  rw [← eu52] at n52
  have H52 := Aside0.mk (fun (W : World) (h : Below w.heap.size w W) => volumes_number.calls 9 A52 (c - 52) b52 4 _ W (Kd.C_of_reads (enc := Value.int .u8) (d := (0 : Int)) (h1 := fun _ => rfl) (r52 W (HR.out.below h))) l52 n52)
  obtain ⟨A56, k56, r56, l56⟩ := print_drop_of (P := Try.prog) (Value.int .u8) 0 22 5 .i64 Try.underlying22 hi hsz A c b 56 (by decide) (by omega) hc
  rw [show ((56 : Int)).toNat = 56 from rfl] at k56 r56 l56
  have n56 : volumes_number.f 9 (b.drop 56) 4 = some (numP (b.drop 56) 4) := nm_f 9 (b.drop 56) 4 (by decide) (by rw [List.length_drop]; omega) (hbd 56) (by decide)
  obtain ⟨b56, e56⟩ : ∃ x, x = b.drop 56 := ⟨_, rfl⟩
  rw [← e56] at k56 r56 l56 n56
  obtain ⟨u56, eu56⟩ : ∃ x, x = numP b56 4 := ⟨_, rfl⟩
  rw [← eu56] at n56
  have H56 := Aside0.mk (fun (W : World) (h : Below w.heap.size w W) => volumes_number.calls 9 A56 (c - 56) b56 4 _ W (Kd.C_of_reads (enc := Value.int .u8) (d := (0 : Int)) (h1 := fun _ => rfl) (r56 W (HR.out.below h))) l56 n56)
  obtain ⟨A60, k60, r60, l60⟩ := print_drop_of (P := Try.prog) (Value.int .u8) 0 22 5 .i64 Try.underlying22 hi hsz A c b 60 (by decide) (by omega) hc
  rw [show ((60 : Int)).toNat = 60 from rfl] at k60 r60 l60
  have n60 : volumes_number.f 9 (b.drop 60) 4 = some (numP (b.drop 60) 4) := nm_f 9 (b.drop 60) 4 (by decide) (by rw [List.length_drop]; omega) (hbd 60) (by decide)
  obtain ⟨b60, e60⟩ : ∃ x, x = b.drop 60 := ⟨_, rfl⟩
  rw [← e60] at k60 r60 l60 n60
  obtain ⟨u60, eu60⟩ : ∃ x, x = numP b60 4 := ⟨_, rfl⟩
  rw [← eu60] at n60
  have H60 := Aside0.mk (fun (W : World) (h : Below w.heap.size w W) => volumes_number.calls 9 A60 (c - 60) b60 4 _ W (Kd.C_of_reads (enc := Value.int .u8) (d := (0 : Int)) (h1 := fun _ => rfl) (r60 W (HR.out.below h))) l60 n60)
  obtain ⟨A64, k64, r64, l64⟩ := print_drop_of (P := Try.prog) (Value.int .u8) 0 22 5 .i64 Try.underlying22 hi hsz A c b 64 (by decide) (by omega) hc
  rw [show ((64 : Int)).toNat = 64 from rfl] at k64 r64 l64
  obtain ⟨b64, e64⟩ : ∃ x, x = b.drop 64 := ⟨_, rfl⟩
  rw [← e64] at k64 r64 l64 hcan
  simp only [← e64]
  have kT := cut_to (P := Try.prog) 22 5 .i64 Try.underlying22 hi A b.length c 60 (by decide) (by omega) hc
  rw [show ((60 : Int)).toNat = 60 from rfl] at kT
  have nT : gzip_Sum.f 1000 (b.take 60) = some (crc (b.take 60)) := gz_f 1000 _ (by rw [List.length_take]; omega) (by rw [List.length_take]; omega)
  have hTl : (b.take 60).length = 60 := by rw [List.length_take]; omega
  have hcr := crc_in (b.take 60)
  obtain ⟨s60, es60⟩ : ∃ x, x = crc (b.take 60) := ⟨_, rfl⟩
  have HT : Aside0 (∀ (W : World), Below w.heap.size w W → Calls Try.prog 80 #[.slice A 60 c] W fun e w' => e = .returned (.int .u32 s60) ∧ Drawn0 W w') := ⟨fun W h => by
    have hh := gzip_Sum.calls 1000 A c (b.take 60) _ W (by have := reads_pre (HR.out.below h) 60 (by omega); exact Kd.C_of_reads (enc := Value.int .u8) (d := (0 : Int)) (h1 := fun _ => rfl) (by rw [hTl]; exact this)) (by omega) nT
    rw [hTl, ← es60] at hh
    exact hh⟩
  rw [← es60] at hh hcr
  rw [← e60, ← eu60] at hh
  rw [← e56, ← eu56] at h56
  rw [← e24, ← eu24] at hfl
  simp only [← e52, ← eu52]
  have hw1 : wrap64 v1 = v1 := wrap_u4 (by rw [← hv1, eu16]; exact numP_in4 b16 (by rw [e16]; exact hbd 16))
  have hw2 : wrap64 v2 = v2 := wrap_u4 (by rw [← hv2, eu20]; exact numP_in4 b20 (by rw [e20]; exact hbd 20))
  have hu52 := numP_in4 b52 (by rw [e52]; exact hbd 52)
  rw [← eu52] at hu52
  subst hv0 hv1 hv2
  have d0 : decide ((b.length : Int) < 64) = false := decide_eq_false (by omega)
  have d1 : (8 : Int) ≤ (c : Int) := by omega
  have d2 : decide (1 < u24) = false := decide_eq_false (by omega)
  have kA : ∀ W : World, Below w.heap.size w W → (convert 22 9 (.slice A 8 c)).run Try.prog W = .ok (.string (strOfNums (b.take 8))) W := fun W h => string_of_reads Try.underlying22 Try.underlying5 Try.underlying9 ((reads_pre hr 8 (by omega)).below h)
  have kB := kA _ (below_alloc (Below.refl _ _) (.cells #[.int .u64 0, .int .i64 0, .int .i64 0, .bool false, .int .i64 0, .int .i64 0, .int .i64 0, .slice none 0 0] 88))
  have hcm : IntKind.u64.wrap s60 = s60 := wrap_u64 ⟨hcr.1, by have := hcr.2; omega⟩
  have hne2 : (u60 != s60) = false := by rw [hh]; simp
  have hne3 : (u56 != 0) = false := by rw [h56]; rfl
  have hcb := crc_in b64
  have hlb : b64.length ≤ 100000000 := by rw [e64, List.length_drop]; omega
  have HS0 : Aside0 (∀ (W : World), Below w.heap.size w W → Calls Try.prog 80 #[.slice A64 b64.length (c - 64)] W fun e w' => e = .returned (.int .u32 (crc b64)) ∧ Drawn0 W w') := ⟨fun W h => gzip_Sum.calls (10 * b64.length + 1) A64 (c - 64) b64 _ W (Kd.C_of_reads (enc := Value.int .u8) (d := (0 : Int)) (h1 := fun _ => rfl) (r64 W (HR.out.below h))) (by omega) (gz_f _ _ hlb (by omega))⟩
  have HCN : Aside0 (∀ (W : World), Below w.heap.size w W → Calls Try.prog 91 #[.agg #[.int .u64 u8, .int .i64 u16, .int .i64 u20, .bool v3, .int .i64 v4, .int .i64 v5, .int .i64 v6, .slice A64 b64.length (c - 64)]] W fun e w' => e = .returned (.bool cn) ∧ Below W.heap.size W w') := ⟨fun W h => volumes_volume_can.calls kc u8 u16 u20 v3 v4 v5 v6 A64 (c - 64) b64 cn W (Kd.C_of_reads (enc := Value.int .u8) (d := (0 : Int)) (h1 := fun _ => rfl) (r64 W (HR.out.below h))) (by omega) hcan⟩
  obtain ⟨s64, es64⟩ : ∃ x, x = crc b64 := ⟨_, rfl⟩
  rw [← es64] at HS0 hcb
  simp only [← es64]
  have HL64 := Aside0.mk l64
  have HR64 := Aside0.mk (r64 w HR.out)
  clear l64 r64 e64 es64 hcan hlb
  clear hr kA nT hTl es60 hbd hi hsz hb hh h56 hfl n8 e8 l8 r8 eu8 n16 e16 l16 r16 eu16 n20 e20 l20 r20 eu20 n24 e24 l24 r24 eu24 n28 e28 l28 r28 eu28 n36 e36 l36 r36 eu36 n44 e44 l44 r44 eu44 n52 e52 l52 r52 eu52 n56 e56 l56 r56 eu56 n60 e60 l60 r60 eu60
  refine hide_post (fun Q HQ => ?_)
  go_enter Try.func67, Try.ntmps67
  go_upto_region 4 with (go_at_call 90; refine (H24.out _ (below_alloc (Below.refl _ _) _)).mono ?_; rintro e w2 ⟨rfl, ⟨m2, rfl⟩⟩)
  clear kB H24
  have hg := heap_alloc_new w (.cells #[.int .u64 0, .int .i64 0, .int .i64 0, .bool false, .int .i64 0, .int .i64 0, .int .i64 0, .slice none 0 0] 88)
  have HB := Aside0.mk (pw_below_drewN (below_alloc (Below.refl w.heap.size w) (.cells #[.int .u64 0, .int .i64 0, .int .i64 0, .bool false, .int .i64 0, .int .i64 0, .int .i64 0, .slice none 0 0] 88)) m2)
  have HG := Aside0.mk (show ((w.alloc (.cells #[.int .u64 0, .int .i64 0, .int .i64 0, .bool false, .int .i64 0, .int .i64 0, .int .i64 0, .slice none 0 0] 88)).drewN m2).heap[w.heap.size]? = some (.cells #[.int .u64 0, .int .i64 0, .int .i64 0, .bool false, .int .i64 0, .int .i64 0, .int .i64 0, .slice none 0 0] 88 (0, 0)) from hg)
  generalize (w.alloc (.cells #[.int .u64 0, .int .i64 0, .int .i64 0, .bool false, .int .i64 0, .int .i64 0, .int .i64 0, .slice none 0 0] 88)).drewN m2 = wr at HB HG ⊢
  clear hg
  have HBd := Aside0.mk (show Below w.heap.size w wr.drew from below_drew HB.out)
  have HGd := Aside0.mk (show wr.drew.heap[w.heap.size]? = some (.cells #[.int .u64 0, .int .i64 0, .int .i64 0, .bool false, .int .i64 0, .int .i64 0, .int .i64 0, .slice none 0 0] 88 (0, 0)) from HG.out)
  refine start_ (n := 18) (S := fun w' => True) (ds := []) #[false, false, false, false, false, false, false, false, false, false, false, false, false, false, false, false, false, false] (by kernel_rfl) rfl rfl trivial (fun hHeld => ?_)
  generalize wr.drew = wd at HBd HGd hHeld ⊢
  refine pure_ (i := 0) (N := some 19) (v := ?_) (a' := ?_) #[true, false, false, false, false, false, false, false, false, false, false, false, false, false, false, false, false, false] rfl rfl (by kernel_rfl) (fun _ _ _ h => h) (Or.inl ⟨by rfl, ?_⟩) ?_ ?_
  rotate_left
  · intro w'
    go_simp
    with_reducible rfl
  rotate_left
  · simp only [Act.put, List.setIfInBounds_toArray, List.set_cons_zero, List.set_cons_succ, i64_w, i32_w]
    rfl
  refine pure_ (i := 1) (N := some 20) (v := ?_) (a' := ?_) #[true, true, false, false, false, false, false, false, false, false, false, false, false, false, false, false, false, false] rfl rfl (by kernel_rfl) (fun _ _ _ h => h) (Or.inl ⟨by rfl, ?_⟩) ?_ ?_
  rotate_left
  · intro w'
    go_simp
    with_reducible rfl
  rotate_left
  · simp only [Act.put, List.setIfInBounds_toArray, List.set_cons_zero, List.set_cons_succ, i64_w, i32_w]
    rfl
  refine pure_ (i := 3) (N := some 22) (v := ?_) (a' := ?_) #[true, true, false, true, false, false, false, false, false, false, false, false, false, false, false, false, false, false] rfl rfl (by kernel_rfl) (fun _ _ _ h => h) (Or.inl ⟨by rfl, ?_⟩) ?_ ?_
  rotate_left
  · intro w'
    go_simp
    with_reducible rfl
  rotate_left
  · simp only [Act.put, List.setIfInBounds_toArray, List.set_cons_zero, List.set_cons_succ, i64_w, i32_w]
    rfl
  refine pure_ (i := 4) (N := some 23) (v := ?_) (a' := ?_) #[true, true, false, true, true, false, false, false, false, false, false, false, false, false, false, false, false, false] rfl rfl (by kernel_rfl) (fun _ _ _ h => h) (Or.inl ⟨by rfl, ?_⟩) ?_ ?_
  rotate_left
  · intro w'
    go_simp
    with_reducible rfl
  rotate_left
  · simp only [Act.put, List.setIfInBounds_toArray, List.set_cons_zero, List.set_cons_succ, i64_w, i32_w]
    rfl
  refine one_ (i := 2) (N := some 21) #[true, true, true, true, true, false, false, false, false, false, false, false, false, false, false, false, false, false] rfl rfl (by kernel_rfl) (by decide) (fun K hK => ?_)
  refine goes_ Try.func90 (by kernel_rfl) rfl #[.slice A60 b60.length (c - 60), .int .i64 4] (by rfl) rfl rfl (by simp only [List.map_toArray, List.map_cons, List.map_nil]; rfl) ?_
  with_reducible refine ((H60.out wd HBd.out)).mono ?_
  rintro e w3 ⟨rfl, ⟨m3, rfl⟩⟩
  refine ⟨_, rfl, ?_⟩
  refine hK.out _ _ trivial (fun hHeld => ?_)
  clear hK K
  refine norm_ (a' := ?_) ?_ ?_
  rotate_left
  · show Act.put _ (some 21) _ = _
    simp only [Act.put, List.setIfInBounds_toArray, List.set_cons_zero, List.set_cons_succ, i64_w, i32_w]
    rfl
  refine one_ (i := 5) (N := some 24) #[true, true, true, true, true, true, false, false, false, false, false, false, false, false, false, false, false, false] rfl rfl (by kernel_rfl) (by decide) (fun K hK => ?_)
  refine goes_ Try.func80 (by kernel_rfl) rfl #[.slice A 60 c] (by rfl) rfl rfl (by simp only [List.map_toArray, List.map_cons, List.map_nil]; rfl) ?_
  with_reducible refine ((HT.out (wd.drewN m3) (pw_below_drewN HBd.out m3))).mono ?_
  rintro e w4 ⟨rfl, ⟨m4, rfl⟩⟩
  refine ⟨_, rfl, ?_⟩
  refine hK.out _ _ trivial (fun hHeld => ?_)
  clear hK K
  refine norm_ (a' := ?_) ?_ ?_
  rotate_left
  · show Act.put _ (some 24) _ = _
    simp only [Act.put, List.setIfInBounds_toArray, List.set_cons_zero, List.set_cons_succ, i64_w, i32_w]
    rfl
  refine pure_ (i := 6) (N := some 25) (v := ?_) (a' := ?_) #[true, true, true, true, true, true, true, false, false, false, false, false, false, false, false, false, false, false] rfl rfl (by kernel_rfl) (fun _ _ _ h => h) (Or.inl ⟨by rfl, ?_⟩) ?_ ?_
  rotate_left
  · intro w'
    go_simp
    with_reducible rfl
  rotate_left
  · simp only [Act.put, List.setIfInBounds_toArray, List.set_cons_zero, List.set_cons_succ, i64_w, i32_w]
    rfl
  refine pure_ (i := 7) (N := some 26) (v := ?_) (a' := ?_) #[true, true, true, true, true, true, true, true, false, false, false, false, false, false, false, false, false, false] rfl rfl (by kernel_rfl) (fun _ _ _ h => h) (Or.inl ⟨by rfl, ?_⟩) ?_ ?_
  rotate_left
  · intro w'
    go_simp
    with_reducible rfl
  rotate_left
  · simp only [Act.put, List.setIfInBounds_toArray, List.set_cons_zero, List.set_cons_succ, i64_w, i32_w]
    rfl
  refine pure_ (i := 8) (N := some 27) (v := ?_) (a' := ?_) #[true, true, true, true, true, true, true, true, true, false, false, false, false, false, false, false, false, false] rfl rfl (by kernel_rfl) (fun _ _ _ h => h) (Or.inl ⟨by rfl, ?_⟩) ?_ ?_
  rotate_left
  · intro w'
    go_simp
    with_reducible rfl
  rotate_left
  · simp only [Act.put, List.setIfInBounds_toArray, List.set_cons_zero, List.set_cons_succ, i64_w, i32_w]
    rfl
  refine pure_ (i := 9) (N := some 28) (v := ?_) (a' := ?_) #[true, true, true, true, true, true, true, true, true, true, false, false, false, false, false, false, false, false] rfl rfl (by kernel_rfl) (fun _ _ _ h => h) (Or.inl ⟨by rfl, ?_⟩) ?_ ?_
  rotate_left
  · intro w'
    go_simp
    with_reducible rfl
  rotate_left
  · simp only [Act.put, List.setIfInBounds_toArray, List.set_cons_zero, List.set_cons_succ, i64_w, i32_w]
    rfl
  refine pure_ (i := 10) (N := some 29) (v := ?_) (a' := ?_) #[true, true, true, true, true, true, true, true, true, true, true, false, false, false, false, false, false, false] rfl rfl (by kernel_rfl) (fun _ _ _ h => h) (Or.inl ⟨by rfl, ?_⟩) ?_ ?_
  rotate_left
  · intro w'
    go_simp
    with_reducible rfl
  rotate_left
  · simp only [Act.put, List.setIfInBounds_toArray, List.set_cons_zero, List.set_cons_succ, i64_w, i32_w]
    rfl
  refine one_ (i := 11) (N := some 30) #[true, true, true, true, true, true, true, true, true, true, true, true, false, false, false, false, false, false] rfl rfl (by kernel_rfl) (by decide) (fun K hK => ?_)
  refine goes_ Try.func90 (by kernel_rfl) rfl #[.slice A56 b56.length (c - 56), .int .i64 4] (by rfl) rfl rfl (by simp only [List.map_toArray, List.map_cons, List.map_nil]; rfl) ?_
  with_reducible refine ((H56.out ((wd.drewN m3).drewN m4) (pw_below_drewN (pw_below_drewN HBd.out m3) m4))).mono ?_
  rintro e w5 ⟨rfl, ⟨m5, rfl⟩⟩
  refine ⟨_, rfl, ?_⟩
  refine hK.out _ _ trivial (fun hHeld => ?_)
  clear hK K
  refine norm_ (a' := ?_) ?_ ?_
  rotate_left
  · show Act.put _ (some 30) _ = _
    simp only [Act.put, List.setIfInBounds_toArray, List.set_cons_zero, List.set_cons_succ, i64_w, i32_w]
    rfl
  refine pure_ (i := 12) (N := some 31) (v := ?_) (a' := ?_) #[true, true, true, true, true, true, true, true, true, true, true, true, true, false, false, false, false, false] rfl rfl (by kernel_rfl) (fun _ _ _ h => h) (Or.inl ⟨by rfl, ?_⟩) ?_ ?_
  rotate_left
  · intro w'
    go_simp
    with_reducible rfl
  rotate_left
  · simp only [Act.put, List.setIfInBounds_toArray, List.set_cons_zero, List.set_cons_succ, i64_w, i32_w]
    rfl
  refine pure_ (i := 13) (N := some 32) (v := ?_) (a' := ?_) #[true, true, true, true, true, true, true, true, true, true, true, true, true, true, false, false, false, false] rfl rfl (by kernel_rfl) (fun _ _ _ h => h) (Or.inl ⟨by rfl, ?_⟩) ?_ ?_
  rotate_left
  · intro w'
    go_simp
    with_reducible rfl
  rotate_left
  · simp only [Act.put, List.setIfInBounds_toArray, List.set_cons_zero, List.set_cons_succ, i64_w, i32_w]
    rfl
  refine pure_ (i := 14) (N := some 33) (v := ?_) (a' := ?_) #[true, true, true, true, true, true, true, true, true, true, true, true, true, true, true, false, false, false] rfl rfl (by kernel_rfl) (fun _ _ _ h => h) (Or.inl ⟨by rfl, ?_⟩) ?_ ?_
  rotate_left
  · intro w'
    go_simp
    with_reducible rfl
  rotate_left
  · simp only [Act.put, List.setIfInBounds_toArray, List.set_cons_zero, List.set_cons_succ, i64_w, i32_w]
    rfl
  refine pure_ (i := 15) (N := some 34) (v := ?_) (a' := ?_) #[true, true, true, true, true, true, true, true, true, true, true, true, true, true, true, true, false, false] rfl rfl (by kernel_rfl) (fun _ _ _ h => h) (Or.inl ⟨by rfl, ?_⟩) ?_ ?_
  rotate_left
  · intro w'
    go_simp
    with_reducible rfl
  rotate_left
  · simp only [Act.put, List.setIfInBounds_toArray, List.set_cons_zero, List.set_cons_succ, i64_w, i32_w]
    rfl
  refine pure_ (i := 16) (N := some 35) (v := ?_) (a' := ?_) #[true, true, true, true, true, true, true, true, true, true, true, true, true, true, true, true, true, false] rfl rfl (by kernel_rfl) (fun _ _ _ h => h) (Or.inl ⟨by rfl, ?_⟩) ?_ ?_
  rotate_left
  · intro w'
    go_simp
    with_reducible rfl
  rotate_left
  · simp only [Act.put, List.setIfInBounds_toArray, List.set_cons_zero, List.set_cons_succ, i64_w, i32_w]
    rfl
  refine pure_ (i := 17) (N := some 36) (v := ?_) (a' := ?_) #[true, true, true, true, true, true, true, true, true, true, true, true, true, true, true, true, true, true] rfl rfl (by kernel_rfl) (fun _ _ _ h => h) (Or.inl ⟨by rfl, ?_⟩) ?_ ?_
  rotate_left
  · intro w'
    go_simp
    with_reducible rfl
  rotate_left
  · simp only [Act.put, List.setIfInBounds_toArray, List.set_cons_zero, List.set_cons_succ, i64_w, i32_w]
    rfl
  refine done_ (by kernel_rfl) ?_
  have HBq := Aside0.mk (pw_below_drewN (pw_below_drewN (pw_below_drewN HBd.out m3) m4) m5)
  have HGq := Aside0.mk (show (((wd.drewN m3).drewN m4).drewN m5).heap[w.heap.size]? = some (.cells #[.int .u64 0, .int .i64 0, .int .i64 0, .bool false, .int .i64 0, .int .i64 0, .int .i64 0, .slice none 0 0] 88 (0, 0)) from HGd.out)
  generalize ((wd.drewN m3).drewN m4).drewN m5 = wq at HBq HGq ⊢
  go_upto_region 6 with fail
  have HBe := Aside0.mk (show Below w.heap.size w wq.drew from below_drew HBq.out)
  have HGe := Aside0.mk (show wq.drew.heap[w.heap.size]? = some (.cells #[.int .u64 0, .int .i64 0, .int .i64 0, .bool false, .int .i64 0, .int .i64 0, .int .i64 0, .slice none 0 0] 88 (0, 0)) from HGq.out)
  refine start_ (n := 31) (S := fun w' => True) (ds := [30]) #[false, false, false, false, false, false, false, false, false, false, false, false, false, false, false, false, false, false, false, false, false, false, false, false, false, false, false, false, false, false, false] (by kernel_rfl) rfl rfl trivial (fun hHeld => ?_)
  generalize wq.drew = we at HBe HGe hHeld ⊢
  refine pure_ (i := 0) (N := some 38) (v := ?_) (a' := ?_) #[true, false, false, false, false, false, false, false, false, false, false, false, false, false, false, false, false, false, false, false, false, false, false, false, false, false, false, false, false, false, false] rfl rfl (by kernel_rfl) (fun _ _ _ h => h) (Or.inl ⟨by rfl, ?_⟩) ?_ ?_
  rotate_left
  · intro w'
    go_simp
    with_reducible rfl
  rotate_left
  · simp only [Act.put, List.setIfInBounds_toArray, List.set_cons_zero, List.set_cons_succ, i64_w, i32_w]
    rfl
  refine pure_ (i := 1) (N := some 39) (v := ?_) (a' := ?_) #[true, true, false, false, false, false, false, false, false, false, false, false, false, false, false, false, false, false, false, false, false, false, false, false, false, false, false, false, false, false, false] rfl rfl (by kernel_rfl) (fun _ _ _ h => h) (Or.inl ⟨by rfl, ?_⟩) ?_ ?_
  rotate_left
  · intro w'
    go_simp
    with_reducible rfl
  rotate_left
  · simp only [Act.put, List.setIfInBounds_toArray, List.set_cons_zero, List.set_cons_succ, i64_w, i32_w]
    rfl
  refine pure_ (i := 3) (N := some 41) (v := ?_) (a' := ?_) #[true, true, false, true, false, false, false, false, false, false, false, false, false, false, false, false, false, false, false, false, false, false, false, false, false, false, false, false, false, false, false] rfl rfl (by kernel_rfl) (fun _ _ _ h => h) (Or.inl ⟨by rfl, ?_⟩) ?_ ?_
  rotate_left
  · intro w'
    go_simp
    with_reducible rfl
  rotate_left
  · simp only [Act.put, List.setIfInBounds_toArray, List.set_cons_zero, List.set_cons_succ, i64_w, i32_w]
    rfl
  refine pure_ (i := 4) (N := some 42) (v := ?_) (a' := ?_) #[true, true, false, true, true, false, false, false, false, false, false, false, false, false, false, false, false, false, false, false, false, false, false, false, false, false, false, false, false, false, false] rfl rfl (by kernel_rfl) (fun _ _ _ h => h) (Or.inl ⟨by rfl, ?_⟩) ?_ ?_
  rotate_left
  · intro w'
    go_simp
    with_reducible rfl
  rotate_left
  · simp only [Act.put, List.setIfInBounds_toArray, List.set_cons_zero, List.set_cons_succ, i64_w, i32_w]
    rfl
  refine pure_ (i := 7) (N := some 45) (v := ?_) (a' := ?_) #[true, true, false, true, true, false, false, true, false, false, false, false, false, false, false, false, false, false, false, false, false, false, false, false, false, false, false, false, false, false, false] rfl rfl (by kernel_rfl) (fun _ _ _ h => h) (Or.inl ⟨by rfl, ?_⟩) ?_ ?_
  rotate_left
  · intro w'
    go_simp
    with_reducible rfl
  rotate_left
  · simp only [Act.put, List.setIfInBounds_toArray, List.set_cons_zero, List.set_cons_succ, i64_w, i32_w]
    rfl
  refine pure_ (i := 8) (N := some 46) (v := ?_) (a' := ?_) #[true, true, false, true, true, false, false, true, true, false, false, false, false, false, false, false, false, false, false, false, false, false, false, false, false, false, false, false, false, false, false] rfl rfl (by kernel_rfl) (fun _ _ _ h => h) (Or.inl ⟨by rfl, ?_⟩) ?_ ?_
  rotate_left
  · intro w'
    go_simp
    with_reducible rfl
  rotate_left
  · simp only [Act.put, List.setIfInBounds_toArray, List.set_cons_zero, List.set_cons_succ, i64_w, i32_w]
    rfl
  refine pure_ (i := 11) (N := some 49) (v := ?_) (a' := ?_) #[true, true, false, true, true, false, false, true, true, false, false, true, false, false, false, false, false, false, false, false, false, false, false, false, false, false, false, false, false, false, false] rfl rfl (by kernel_rfl) (fun _ _ _ h => h) (Or.inl ⟨by rfl, ?_⟩) ?_ ?_
  rotate_left
  · intro w'
    go_simp
    with_reducible rfl
  rotate_left
  · simp only [Act.put, List.setIfInBounds_toArray, List.set_cons_zero, List.set_cons_succ, i64_w, i32_w]
    rfl
  refine pure_ (i := 12) (N := some 50) (v := ?_) (a' := ?_) #[true, true, false, true, true, false, false, true, true, false, false, true, true, false, false, false, false, false, false, false, false, false, false, false, false, false, false, false, false, false, false] rfl rfl (by kernel_rfl) (fun _ _ _ h => h) (Or.inl ⟨by rfl, ?_⟩) ?_ ?_
  rotate_left
  · intro w'
    go_simp
    with_reducible rfl
  rotate_left
  · simp only [Act.put, List.setIfInBounds_toArray, List.set_cons_zero, List.set_cons_succ, i64_w, i32_w]
    rfl
  refine pure_ (i := 13) (N := some 51) (v := ?_) (a' := ?_) #[true, true, false, true, true, false, false, true, true, false, false, true, true, true, false, false, false, false, false, false, false, false, false, false, false, false, false, false, false, false, false] rfl rfl (by kernel_rfl) (fun _ _ _ h => h) (Or.inl ⟨by rfl, ?_⟩) ?_ ?_
  rotate_left
  · intro w'
    go_simp
    with_reducible rfl
  rotate_left
  · simp only [Act.put, List.setIfInBounds_toArray, List.set_cons_zero, List.set_cons_succ, i64_w, i32_w]
    rfl
  refine pure_ (i := 14) (N := some 52) (v := ?_) (a' := ?_) #[true, true, false, true, true, false, false, true, true, false, false, true, true, true, true, false, false, false, false, false, false, false, false, false, false, false, false, false, false, false, false] rfl rfl (by kernel_rfl) (fun _ _ _ h => h) (Or.inl ⟨by rfl, ?_⟩) ?_ ?_
  rotate_left
  · intro w'
    go_simp
    with_reducible rfl
  rotate_left
  · simp only [Act.put, List.setIfInBounds_toArray, List.set_cons_zero, List.set_cons_succ, i64_w, i32_w]
    rfl
  refine pure_ (i := 17) (N := some 55) (v := ?_) (a' := ?_) #[true, true, false, true, true, false, false, true, true, false, false, true, true, true, true, false, false, true, false, false, false, false, false, false, false, false, false, false, false, false, false] rfl rfl (by kernel_rfl) (fun _ _ _ h => h) (Or.inl ⟨by rfl, ?_⟩) ?_ ?_
  rotate_left
  · intro w'
    go_simp
    with_reducible rfl
  rotate_left
  · simp only [Act.put, List.setIfInBounds_toArray, List.set_cons_zero, List.set_cons_succ, i64_w, i32_w]
    rfl
  refine pure_ (i := 18) (N := some 56) (v := ?_) (a' := ?_) #[true, true, false, true, true, false, false, true, true, false, false, true, true, true, true, false, false, true, true, false, false, false, false, false, false, false, false, false, false, false, false] rfl rfl (by kernel_rfl) (fun _ _ _ h => h) (Or.inl ⟨by rfl, ?_⟩) ?_ ?_
  rotate_left
  · intro w'
    go_simp
    with_reducible rfl
  rotate_left
  · simp only [Act.put, List.setIfInBounds_toArray, List.set_cons_zero, List.set_cons_succ, i64_w, i32_w]
    rfl
  refine pure_ (i := 21) (N := some 59) (v := ?_) (a' := ?_) #[true, true, false, true, true, false, false, true, true, false, false, true, true, true, true, false, false, true, true, false, false, true, false, false, false, false, false, false, false, false, false] rfl rfl (by kernel_rfl) (fun _ _ _ h => h) (Or.inl ⟨by rfl, ?_⟩) ?_ ?_
  rotate_left
  · intro w'
    go_simp
    with_reducible rfl
  rotate_left
  · simp only [Act.put, List.setIfInBounds_toArray, List.set_cons_zero, List.set_cons_succ, i64_w, i32_w]
    rfl
  refine pure_ (i := 22) (N := some 60) (v := ?_) (a' := ?_) #[true, true, false, true, true, false, false, true, true, false, false, true, true, true, true, false, false, true, true, false, false, true, true, false, false, false, false, false, false, false, false] rfl rfl (by kernel_rfl) (fun _ _ _ h => h) (Or.inl ⟨by rfl, ?_⟩) ?_ ?_
  rotate_left
  · intro w'
    go_simp
    with_reducible rfl
  rotate_left
  · simp only [Act.put, List.setIfInBounds_toArray, List.set_cons_zero, List.set_cons_succ, i64_w, i32_w]
    rfl
  refine pure_ (i := 26) (N := some 64) (v := ?_) (a' := ?_) #[true, true, false, true, true, false, false, true, true, false, false, true, true, true, true, false, false, true, true, false, false, true, true, false, false, false, true, false, false, false, false] rfl rfl (by kernel_rfl) (fun _ _ _ h => h) (Or.inl ⟨by rfl, ?_⟩) ?_ ?_
  rotate_left
  · intro w'
    go_simp
    with_reducible rfl
  rotate_left
  · simp only [Act.put, List.setIfInBounds_toArray, List.set_cons_zero, List.set_cons_succ, i64_w, i32_w]
    rfl
  refine pure_ (i := 27) (N := some 65) (v := ?_) (a' := ?_) #[true, true, false, true, true, false, false, true, true, false, false, true, true, true, true, false, false, true, true, false, false, true, true, false, false, false, true, true, false, false, false] rfl rfl (by kernel_rfl) (fun _ _ _ h => h) (Or.inl ⟨by rfl, ?_⟩) ?_ ?_
  rotate_left
  · intro w'
    go_simp
    with_reducible rfl
  rotate_left
  · simp only [Act.put, List.setIfInBounds_toArray, List.set_cons_zero, List.set_cons_succ, i64_w, i32_w]
    rfl
  refine join_ (σ := Unit) 1 #[true, true, true, true, true, true, true, true, true, true, true, true, true, true, true, true, true, true, true, true, true, true, true, true, true, true, true, true, true, true, false] (fun _ => [(40, .int .u64 u8), (43, .int .u64 u16), (47, .int .u64 u20), (53, .int .u64 u28), (57, .int .u64 u36), (61, .int .u64 u44), (44, .int .i64 (wrap64 u16)), (48, .int .i64 (wrap64 u20)), (54, .int .i64 (wrap64 u28)), (58, .int .i64 (wrap64 u36)), (62, .int .i64 (wrap64 u44)), (63, .agg #[.int .u64 u8, .int .i64 (u16), .int .i64 (u20), .bool v3, .int .i64 (v4), .int .i64 (v5), .int .i64 (v6)]), (66, .agg #[.int .u64 u8, .int .i64 (u16), .int .i64 (u20), .bool v3, .int .i64 (v4), .int .i64 (v5), .int .i64 (v6), .slice A64 b64.length (c - 64)]), (5, .pointer (some ⟨we.heap.size, 0, none⟩))]) (fun _ w' => Below we.heap.size we w' ∧ w'.heap[we.heap.size]? = some (.cells #[.int .u64 0, .int .i64 0, .int .i64 0, .bool false, .int .i64 0, .int .i64 0, .int .i64 0, .slice none 0 0] 88 (0, 0))) ?_ ?_
  rotate_left
  · intro hCont
    refine two_ (i := 2) (j := 29) (Ni := some 40) (Nj := some 5) #[true, true, true, true, true, false, false, true, true, false, false, true, true, true, true, false, false, true, true, false, false, true, true, false, false, false, true, true, false, false, false] #[true, true, false, true, true, false, false, true, true, false, false, true, true, true, true, false, false, true, true, false, false, true, true, false, false, false, true, true, false, true, false] rfl rfl rfl rfl (by kernel_rfl) (by decide) (by decide) (fun K hK => ?_) (fun K hK => ?_)
    · skip
      refine goes_ Try.func90 (by kernel_rfl) rfl #[.slice A8 b8.length (c - 8), .int .i64 8] (by rfl) rfl rfl (by simp only [List.map_toArray, List.map_cons, List.map_nil]; rfl) ?_
      with_reducible refine ((H8.out we (by repeat (first | exact HBe.out | apply below_alloc | apply pw_below_drewN)))).mono ?_
      rintro e u2 ⟨rfl, ⟨n2, rfl⟩⟩
      refine ⟨_, rfl, ?_⟩
      refine hK.out _ _ trivial (fun hHeld => ?_)
      clear hK K
      refine norm_ (a' := ?_) ?_ ?_
      rotate_left
      · show Act.put _ (some 40) _ = _
        simp only [Act.put, List.setIfInBounds_toArray, List.set_cons_zero, List.set_cons_succ, i64_w, i32_w]
        rfl
      refine two_ (i := 5) (j := 29) (Ni := some 43) (Nj := some 5) #[true, true, true, true, true, true, false, true, true, false, false, true, true, true, true, false, false, true, true, false, false, true, true, false, false, false, true, true, false, false, false] #[true, true, true, true, true, false, false, true, true, false, false, true, true, true, true, false, false, true, true, false, false, true, true, false, false, false, true, true, false, true, false] rfl rfl rfl rfl (by kernel_rfl) (by decide) (by decide) (fun K hK => ?_) (fun K hK => ?_)
      · skip
        refine goes_ Try.func90 (by kernel_rfl) rfl #[.slice A16 b16.length (c - 16), .int .i64 4] (by rfl) rfl rfl (by simp only [List.map_toArray, List.map_cons, List.map_nil]; rfl) ?_
        with_reducible refine ((H16.out (we.drewN n2) (by repeat (first | exact HBe.out | apply below_alloc | apply pw_below_drewN)))).mono ?_
        rintro e u5 ⟨rfl, ⟨n5, rfl⟩⟩
        refine ⟨_, rfl, ?_⟩
        refine hK.out _ _ trivial (fun hHeld => ?_)
        clear hK K
        refine norm_ (a' := ?_) ?_ ?_
        rotate_left
        · show Act.put _ (some 43) _ = _
          simp only [Act.put, List.setIfInBounds_toArray, List.set_cons_zero, List.set_cons_succ, i64_w, i32_w]
          rfl
        refine pure_ (i := 6) (N := some 44) (v := ?_) (a' := ?_) #[true, true, true, true, true, true, true, true, true, false, false, true, true, true, true, false, false, true, true, false, false, true, true, false, false, false, true, true, false, false, false] rfl rfl (by kernel_rfl) (fun _ _ _ h => h) (Or.inl ⟨by rfl, ?_⟩) ?_ ?_
        rotate_left
        · intro w'
          go_simp
          with_reducible rfl
        rotate_left
        · simp only [Act.put, List.setIfInBounds_toArray, List.set_cons_zero, List.set_cons_succ, i64_w, i32_w]
          rfl
        refine two_ (i := 9) (j := 29) (Ni := some 47) (Nj := some 5) #[true, true, true, true, true, true, true, true, true, true, false, true, true, true, true, false, false, true, true, false, false, true, true, false, false, false, true, true, false, false, false] #[true, true, true, true, true, true, true, true, true, false, false, true, true, true, true, false, false, true, true, false, false, true, true, false, false, false, true, true, false, true, false] rfl rfl rfl rfl (by kernel_rfl) (by decide) (by decide) (fun K hK => ?_) (fun K hK => ?_)
        · skip
          refine goes_ Try.func90 (by kernel_rfl) rfl #[.slice A20 b20.length (c - 20), .int .i64 4] (by rfl) rfl rfl (by simp only [List.map_toArray, List.map_cons, List.map_nil]; rfl) ?_
          with_reducible refine ((H20.out ((we.drewN n2).drewN n5) (by repeat (first | exact HBe.out | apply below_alloc | apply pw_below_drewN)))).mono ?_
          rintro e u9 ⟨rfl, ⟨n9, rfl⟩⟩
          refine ⟨_, rfl, ?_⟩
          refine hK.out _ _ trivial (fun hHeld => ?_)
          clear hK K
          refine norm_ (a' := ?_) ?_ ?_
          rotate_left
          · show Act.put _ (some 47) _ = _
            simp only [Act.put, List.setIfInBounds_toArray, List.set_cons_zero, List.set_cons_succ, i64_w, i32_w]
            rfl
          refine pure_ (i := 10) (N := some 48) (v := ?_) (a' := ?_) #[true, true, true, true, true, true, true, true, true, true, true, true, true, true, true, false, false, true, true, false, false, true, true, false, false, false, true, true, false, false, false] rfl rfl (by kernel_rfl) (fun _ _ _ h => h) (Or.inl ⟨by rfl, ?_⟩) ?_ ?_
          rotate_left
          · intro w'
            go_simp
            with_reducible rfl
          rotate_left
          · simp only [Act.put, List.setIfInBounds_toArray, List.set_cons_zero, List.set_cons_succ, i64_w, i32_w]
            rfl
          refine two_ (i := 15) (j := 29) (Ni := some 53) (Nj := some 5) #[true, true, true, true, true, true, true, true, true, true, true, true, true, true, true, true, false, true, true, false, false, true, true, false, false, false, true, true, false, false, false] #[true, true, true, true, true, true, true, true, true, true, true, true, true, true, true, false, false, true, true, false, false, true, true, false, false, false, true, true, false, true, false] rfl rfl rfl rfl (by kernel_rfl) (by decide) (by decide) (fun K hK => ?_) (fun K hK => ?_)
          · skip
            refine goes_ Try.func90 (by kernel_rfl) rfl #[.slice A28 b28.length (c - 28), .int .i64 8] (by rfl) rfl rfl (by simp only [List.map_toArray, List.map_cons, List.map_nil]; rfl) ?_
            with_reducible refine ((H28.out (((we.drewN n2).drewN n5).drewN n9) (by repeat (first | exact HBe.out | apply below_alloc | apply pw_below_drewN)))).mono ?_
            rintro e u15 ⟨rfl, ⟨n15, rfl⟩⟩
            refine ⟨_, rfl, ?_⟩
            refine hK.out _ _ trivial (fun hHeld => ?_)
            clear hK K
            refine norm_ (a' := ?_) ?_ ?_
            rotate_left
            · show Act.put _ (some 53) _ = _
              simp only [Act.put, List.setIfInBounds_toArray, List.set_cons_zero, List.set_cons_succ, i64_w, i32_w]
              rfl
            refine pure_ (i := 16) (N := some 54) (v := ?_) (a' := ?_) #[true, true, true, true, true, true, true, true, true, true, true, true, true, true, true, true, true, true, true, false, false, true, true, false, false, false, true, true, false, false, false] rfl rfl (by kernel_rfl) (fun _ _ _ h => h) (Or.inl ⟨by rfl, ?_⟩) ?_ ?_
            rotate_left
            · intro w'
              go_simp
              with_reducible rfl
            rotate_left
            · simp only [Act.put, List.setIfInBounds_toArray, List.set_cons_zero, List.set_cons_succ, i64_w, i32_w]
              rfl
            refine two_ (i := 19) (j := 29) (Ni := some 57) (Nj := some 5) #[true, true, true, true, true, true, true, true, true, true, true, true, true, true, true, true, true, true, true, true, false, true, true, false, false, false, true, true, false, false, false] #[true, true, true, true, true, true, true, true, true, true, true, true, true, true, true, true, true, true, true, false, false, true, true, false, false, false, true, true, false, true, false] rfl rfl rfl rfl (by kernel_rfl) (by decide) (by decide) (fun K hK => ?_) (fun K hK => ?_)
            · skip
              refine goes_ Try.func90 (by kernel_rfl) rfl #[.slice A36 b36.length (c - 36), .int .i64 8] (by rfl) rfl rfl (by simp only [List.map_toArray, List.map_cons, List.map_nil]; rfl) ?_
              with_reducible refine ((H36.out ((((we.drewN n2).drewN n5).drewN n9).drewN n15) (by repeat (first | exact HBe.out | apply below_alloc | apply pw_below_drewN)))).mono ?_
              rintro e u19 ⟨rfl, ⟨n19, rfl⟩⟩
              refine ⟨_, rfl, ?_⟩
              refine hK.out _ _ trivial (fun hHeld => ?_)
              clear hK K
              refine norm_ (a' := ?_) ?_ ?_
              rotate_left
              · show Act.put _ (some 57) _ = _
                simp only [Act.put, List.setIfInBounds_toArray, List.set_cons_zero, List.set_cons_succ, i64_w, i32_w]
                rfl
              refine pure_ (i := 20) (N := some 58) (v := ?_) (a' := ?_) #[true, true, true, true, true, true, true, true, true, true, true, true, true, true, true, true, true, true, true, true, true, true, true, false, false, false, true, true, false, false, false] rfl rfl (by kernel_rfl) (fun _ _ _ h => h) (Or.inl ⟨by rfl, ?_⟩) ?_ ?_
              rotate_left
              · intro w'
                go_simp
                with_reducible rfl
              rotate_left
              · simp only [Act.put, List.setIfInBounds_toArray, List.set_cons_zero, List.set_cons_succ, i64_w, i32_w]
                rfl
              refine two_ (i := 23) (j := 29) (Ni := some 61) (Nj := some 5) #[true, true, true, true, true, true, true, true, true, true, true, true, true, true, true, true, true, true, true, true, true, true, true, true, false, false, true, true, false, false, false] #[true, true, true, true, true, true, true, true, true, true, true, true, true, true, true, true, true, true, true, true, true, true, true, false, false, false, true, true, false, true, false] rfl rfl rfl rfl (by kernel_rfl) (by decide) (by decide) (fun K hK => ?_) (fun K hK => ?_)
              · skip
                refine goes_ Try.func90 (by kernel_rfl) rfl #[.slice A44 b44.length (c - 44), .int .i64 8] (by rfl) rfl rfl (by simp only [List.map_toArray, List.map_cons, List.map_nil]; rfl) ?_
                with_reducible refine ((H44.out (((((we.drewN n2).drewN n5).drewN n9).drewN n15).drewN n19) (by repeat (first | exact HBe.out | apply below_alloc | apply pw_below_drewN)))).mono ?_
                rintro e u23 ⟨rfl, ⟨n23, rfl⟩⟩
                refine ⟨_, rfl, ?_⟩
                refine hK.out _ _ trivial (fun hHeld => ?_)
                clear hK K
                refine norm_ (a' := ?_) ?_ ?_
                rotate_left
                · show Act.put _ (some 61) _ = _
                  simp only [Act.put, List.setIfInBounds_toArray, List.set_cons_zero, List.set_cons_succ, i64_w, i32_w]
                  rfl
                refine pure_ (i := 24) (N := some 62) (v := ?_) (a' := ?_) #[true, true, true, true, true, true, true, true, true, true, true, true, true, true, true, true, true, true, true, true, true, true, true, true, true, false, true, true, false, false, false] rfl rfl (by kernel_rfl) (fun _ _ _ h => h) (Or.inl ⟨by rfl, ?_⟩) ?_ ?_
                rotate_left
                · intro w'
                  go_simp
                  with_reducible rfl
                rotate_left
                · simp only [Act.put, List.setIfInBounds_toArray, List.set_cons_zero, List.set_cons_succ, i64_w, i32_w]
                  rfl
                refine pure_ (i := 25) (N := some 63) (v := ?_) (a' := ?_) #[true, true, true, true, true, true, true, true, true, true, true, true, true, true, true, true, true, true, true, true, true, true, true, true, true, true, true, true, false, false, false] rfl rfl (by kernel_rfl) (fun _ _ _ h => h) (Or.inl ⟨by rfl, ?_⟩) ?_ ?_
                rotate_left
                · intro w'
                  go_simp
                  with_reducible rfl
                rotate_left
                · simp only [Act.put, List.setIfInBounds_toArray, List.set_cons_zero, List.set_cons_succ, i64_w, i32_w]
                  rfl
                refine pure_ (i := 28) (N := some 66) (v := ?_) (a' := ?_) #[true, true, true, true, true, true, true, true, true, true, true, true, true, true, true, true, true, true, true, true, true, true, true, true, true, true, true, true, true, false, false] rfl rfl (by kernel_rfl) (fun _ _ _ h => h) (Or.inl ⟨by rfl, ?_⟩) ?_ ?_
                rotate_left
                · intro w'
                  go_simp
                  with_reducible rfl
                rotate_left
                · simp only [Act.put, List.setIfInBounds_toArray, List.set_cons_zero, List.set_cons_succ, i64_w, i32_w]
                  rfl
                refine one_ (i := 29) (N := some 5) #[true, true, true, true, true, true, true, true, true, true, true, true, true, true, true, true, true, true, true, true, true, true, true, true, true, true, true, true, true, true, false] rfl rfl (by kernel_rfl) (by decide) (fun K hK => ?_)
                refine value_ (w1 := ?_) (v := ?_) (by rfl) rfl ?_ ?_
                rotate_left 2
                · go_simp
                  constructor
                  · rfl
                  · rfl
                refine hK.out _ _ trivial (fun hHeld => ?_)
                clear hK K
                refine norm_ (a' := ?_) ?_ ?_
                rotate_left
                · show Act.put _ (some 5) _ = _
                  simp only [Act.put, List.setIfInBounds_toArray, List.set_cons_zero, List.set_cons_succ, i64_w, i32_w]
                  rfl
                exact norm_ (by simp only [putAll, Act.put, List.setIfInBounds_toArray, List.set_cons_zero, List.set_cons_succ]) (hCont () _ ⟨(by repeat (first | exact Below.refl we.heap.size we | apply below_alloc | apply pw_below_drewN)), (show ((we.drewN (n2 + n5 + n9 + n15 + n19 + n23)).alloc (.cells #[.int .u64 0, .int .i64 0, .int .i64 0, .bool false, .int .i64 0, .int .i64 0, .int .i64 0, .slice none 0 0] 88)).heap[we.heap.size]? = some (.cells #[.int .u64 0, .int .i64 0, .int .i64 0, .bool false, .int .i64 0, .int .i64 0, .int .i64 0, .slice none 0 0] 88 (0, 0)) from heap_alloc_new _ _)⟩)
              · skip
                refine value_ (w1 := ?_) (v := ?_) (by rfl) rfl ?_ ?_
                rotate_left 2
                · go_simp
                  constructor
                  · rfl
                  · rfl
                refine hK.out _ _ trivial (fun hHeld => ?_)
                clear hK K
                refine norm_ (a' := ?_) ?_ ?_
                rotate_left
                · show Act.put _ (some 5) _ = _
                  simp only [Act.put, List.setIfInBounds_toArray, List.set_cons_zero, List.set_cons_succ, i64_w, i32_w]
                  rfl
                refine one_ (i := 23) (N := some 61) #[true, true, true, true, true, true, true, true, true, true, true, true, true, true, true, true, true, true, true, true, true, true, true, true, false, false, true, true, false, true, false] rfl rfl (by kernel_rfl) (by decide) (fun K hK => ?_)
                refine goes_ Try.func90 (by kernel_rfl) rfl #[.slice A44 b44.length (c - 44), .int .i64 8] (by rfl) rfl rfl (by simp only [List.map_toArray, List.map_cons, List.map_nil]; rfl) ?_
                with_reducible refine ((H44.out ((we.drewN (n2 + n5 + n9 + n15 + n19)).alloc (.cells #[.int .u64 0, .int .i64 0, .int .i64 0, .bool false, .int .i64 0, .int .i64 0, .int .i64 0, .slice none 0 0] 88)) (by repeat (first | exact HBe.out | apply below_alloc | apply pw_below_drewN)))).mono ?_
                rintro e u23 ⟨rfl, ⟨n23, rfl⟩⟩
                refine ⟨_, rfl, ?_⟩
                refine hK.out _ _ trivial (fun hHeld => ?_)
                clear hK K
                refine norm_ (a' := ?_) ?_ ?_
                rotate_left
                · show Act.put _ (some 61) _ = _
                  simp only [Act.put, List.setIfInBounds_toArray, List.set_cons_zero, List.set_cons_succ, i64_w, i32_w]
                  rfl
                refine pure_ (i := 24) (N := some 62) (v := ?_) (a' := ?_) #[true, true, true, true, true, true, true, true, true, true, true, true, true, true, true, true, true, true, true, true, true, true, true, true, true, false, true, true, false, true, false] rfl rfl (by kernel_rfl) (fun _ _ _ h => h) (Or.inl ⟨by rfl, ?_⟩) ?_ ?_
                rotate_left
                · intro w'
                  go_simp
                  with_reducible rfl
                rotate_left
                · simp only [Act.put, List.setIfInBounds_toArray, List.set_cons_zero, List.set_cons_succ, i64_w, i32_w]
                  rfl
                refine pure_ (i := 25) (N := some 63) (v := ?_) (a' := ?_) #[true, true, true, true, true, true, true, true, true, true, true, true, true, true, true, true, true, true, true, true, true, true, true, true, true, true, true, true, false, true, false] rfl rfl (by kernel_rfl) (fun _ _ _ h => h) (Or.inl ⟨by rfl, ?_⟩) ?_ ?_
                rotate_left
                · intro w'
                  go_simp
                  with_reducible rfl
                rotate_left
                · simp only [Act.put, List.setIfInBounds_toArray, List.set_cons_zero, List.set_cons_succ, i64_w, i32_w]
                  rfl
                refine pure_ (i := 28) (N := some 66) (v := ?_) (a' := ?_) #[true, true, true, true, true, true, true, true, true, true, true, true, true, true, true, true, true, true, true, true, true, true, true, true, true, true, true, true, true, true, false] rfl rfl (by kernel_rfl) (fun _ _ _ h => h) (Or.inl ⟨by rfl, ?_⟩) ?_ ?_
                rotate_left
                · intro w'
                  go_simp
                  with_reducible rfl
                rotate_left
                · simp only [Act.put, List.setIfInBounds_toArray, List.set_cons_zero, List.set_cons_succ, i64_w, i32_w]
                  rfl
                exact norm_ (by simp only [putAll, Act.put, List.setIfInBounds_toArray, List.set_cons_zero, List.set_cons_succ]) (hCont () _ ⟨(by repeat (first | exact Below.refl we.heap.size we | apply below_alloc | apply pw_below_drewN)), (show (((we.drewN (n2 + n5 + n9 + n15 + n19)).alloc (.cells #[.int .u64 0, .int .i64 0, .int .i64 0, .bool false, .int .i64 0, .int .i64 0, .int .i64 0, .slice none 0 0] 88)).drewN n23).heap[we.heap.size]? = some (.cells #[.int .u64 0, .int .i64 0, .int .i64 0, .bool false, .int .i64 0, .int .i64 0, .int .i64 0, .slice none 0 0] 88 (0, 0)) from heap_alloc_new _ _)⟩)
            · skip
              refine value_ (w1 := ?_) (v := ?_) (by rfl) rfl ?_ ?_
              rotate_left 2
              · go_simp
                constructor
                · rfl
                · rfl
              refine hK.out _ _ trivial (fun hHeld => ?_)
              clear hK K
              refine norm_ (a' := ?_) ?_ ?_
              rotate_left
              · show Act.put _ (some 5) _ = _
                simp only [Act.put, List.setIfInBounds_toArray, List.set_cons_zero, List.set_cons_succ, i64_w, i32_w]
                rfl
              refine one_ (i := 19) (N := some 57) #[true, true, true, true, true, true, true, true, true, true, true, true, true, true, true, true, true, true, true, true, false, true, true, false, false, false, true, true, false, true, false] rfl rfl (by kernel_rfl) (by decide) (fun K hK => ?_)
              refine goes_ Try.func90 (by kernel_rfl) rfl #[.slice A36 b36.length (c - 36), .int .i64 8] (by rfl) rfl rfl (by simp only [List.map_toArray, List.map_cons, List.map_nil]; rfl) ?_
              with_reducible refine ((H36.out ((we.drewN (n2 + n5 + n9 + n15)).alloc (.cells #[.int .u64 0, .int .i64 0, .int .i64 0, .bool false, .int .i64 0, .int .i64 0, .int .i64 0, .slice none 0 0] 88)) (by repeat (first | exact HBe.out | apply below_alloc | apply pw_below_drewN)))).mono ?_
              rintro e u19 ⟨rfl, ⟨n19, rfl⟩⟩
              refine ⟨_, rfl, ?_⟩
              refine hK.out _ _ trivial (fun hHeld => ?_)
              clear hK K
              refine norm_ (a' := ?_) ?_ ?_
              rotate_left
              · show Act.put _ (some 57) _ = _
                simp only [Act.put, List.setIfInBounds_toArray, List.set_cons_zero, List.set_cons_succ, i64_w, i32_w]
                rfl
              refine pure_ (i := 20) (N := some 58) (v := ?_) (a' := ?_) #[true, true, true, true, true, true, true, true, true, true, true, true, true, true, true, true, true, true, true, true, true, true, true, false, false, false, true, true, false, true, false] rfl rfl (by kernel_rfl) (fun _ _ _ h => h) (Or.inl ⟨by rfl, ?_⟩) ?_ ?_
              rotate_left
              · intro w'
                go_simp
                with_reducible rfl
              rotate_left
              · simp only [Act.put, List.setIfInBounds_toArray, List.set_cons_zero, List.set_cons_succ, i64_w, i32_w]
                rfl
              refine one_ (i := 23) (N := some 61) #[true, true, true, true, true, true, true, true, true, true, true, true, true, true, true, true, true, true, true, true, true, true, true, true, false, false, true, true, false, true, false] rfl rfl (by kernel_rfl) (by decide) (fun K hK => ?_)
              refine goes_ Try.func90 (by kernel_rfl) rfl #[.slice A44 b44.length (c - 44), .int .i64 8] (by rfl) rfl rfl (by simp only [List.map_toArray, List.map_cons, List.map_nil]; rfl) ?_
              with_reducible refine ((H44.out (((we.drewN (n2 + n5 + n9 + n15)).alloc (.cells #[.int .u64 0, .int .i64 0, .int .i64 0, .bool false, .int .i64 0, .int .i64 0, .int .i64 0, .slice none 0 0] 88)).drewN n19) (by repeat (first | exact HBe.out | apply below_alloc | apply pw_below_drewN)))).mono ?_
              rintro e u23 ⟨rfl, ⟨n23, rfl⟩⟩
              refine ⟨_, rfl, ?_⟩
              refine hK.out _ _ trivial (fun hHeld => ?_)
              clear hK K
              refine norm_ (a' := ?_) ?_ ?_
              rotate_left
              · show Act.put _ (some 61) _ = _
                simp only [Act.put, List.setIfInBounds_toArray, List.set_cons_zero, List.set_cons_succ, i64_w, i32_w]
                rfl
              refine pure_ (i := 24) (N := some 62) (v := ?_) (a' := ?_) #[true, true, true, true, true, true, true, true, true, true, true, true, true, true, true, true, true, true, true, true, true, true, true, true, true, false, true, true, false, true, false] rfl rfl (by kernel_rfl) (fun _ _ _ h => h) (Or.inl ⟨by rfl, ?_⟩) ?_ ?_
              rotate_left
              · intro w'
                go_simp
                with_reducible rfl
              rotate_left
              · simp only [Act.put, List.setIfInBounds_toArray, List.set_cons_zero, List.set_cons_succ, i64_w, i32_w]
                rfl
              refine pure_ (i := 25) (N := some 63) (v := ?_) (a' := ?_) #[true, true, true, true, true, true, true, true, true, true, true, true, true, true, true, true, true, true, true, true, true, true, true, true, true, true, true, true, false, true, false] rfl rfl (by kernel_rfl) (fun _ _ _ h => h) (Or.inl ⟨by rfl, ?_⟩) ?_ ?_
              rotate_left
              · intro w'
                go_simp
                with_reducible rfl
              rotate_left
              · simp only [Act.put, List.setIfInBounds_toArray, List.set_cons_zero, List.set_cons_succ, i64_w, i32_w]
                rfl
              refine pure_ (i := 28) (N := some 66) (v := ?_) (a' := ?_) #[true, true, true, true, true, true, true, true, true, true, true, true, true, true, true, true, true, true, true, true, true, true, true, true, true, true, true, true, true, true, false] rfl rfl (by kernel_rfl) (fun _ _ _ h => h) (Or.inl ⟨by rfl, ?_⟩) ?_ ?_
              rotate_left
              · intro w'
                go_simp
                with_reducible rfl
              rotate_left
              · simp only [Act.put, List.setIfInBounds_toArray, List.set_cons_zero, List.set_cons_succ, i64_w, i32_w]
                rfl
              exact norm_ (by simp only [putAll, Act.put, List.setIfInBounds_toArray, List.set_cons_zero, List.set_cons_succ]) (hCont () _ ⟨(by repeat (first | exact Below.refl we.heap.size we | apply below_alloc | apply pw_below_drewN)), (show ((((we.drewN (n2 + n5 + n9 + n15)).alloc (.cells #[.int .u64 0, .int .i64 0, .int .i64 0, .bool false, .int .i64 0, .int .i64 0, .int .i64 0, .slice none 0 0] 88)).drewN n19).drewN n23).heap[we.heap.size]? = some (.cells #[.int .u64 0, .int .i64 0, .int .i64 0, .bool false, .int .i64 0, .int .i64 0, .int .i64 0, .slice none 0 0] 88 (0, 0)) from heap_alloc_new _ _)⟩)
          · skip
            refine value_ (w1 := ?_) (v := ?_) (by rfl) rfl ?_ ?_
            rotate_left 2
            · go_simp
              constructor
              · rfl
              · rfl
            refine hK.out _ _ trivial (fun hHeld => ?_)
            clear hK K
            refine norm_ (a' := ?_) ?_ ?_
            rotate_left
            · show Act.put _ (some 5) _ = _
              simp only [Act.put, List.setIfInBounds_toArray, List.set_cons_zero, List.set_cons_succ, i64_w, i32_w]
              rfl
            refine one_ (i := 15) (N := some 53) #[true, true, true, true, true, true, true, true, true, true, true, true, true, true, true, true, false, true, true, false, false, true, true, false, false, false, true, true, false, true, false] rfl rfl (by kernel_rfl) (by decide) (fun K hK => ?_)
            refine goes_ Try.func90 (by kernel_rfl) rfl #[.slice A28 b28.length (c - 28), .int .i64 8] (by rfl) rfl rfl (by simp only [List.map_toArray, List.map_cons, List.map_nil]; rfl) ?_
            with_reducible refine ((H28.out ((we.drewN (n2 + n5 + n9)).alloc (.cells #[.int .u64 0, .int .i64 0, .int .i64 0, .bool false, .int .i64 0, .int .i64 0, .int .i64 0, .slice none 0 0] 88)) (by repeat (first | exact HBe.out | apply below_alloc | apply pw_below_drewN)))).mono ?_
            rintro e u15 ⟨rfl, ⟨n15, rfl⟩⟩
            refine ⟨_, rfl, ?_⟩
            refine hK.out _ _ trivial (fun hHeld => ?_)
            clear hK K
            refine norm_ (a' := ?_) ?_ ?_
            rotate_left
            · show Act.put _ (some 53) _ = _
              simp only [Act.put, List.setIfInBounds_toArray, List.set_cons_zero, List.set_cons_succ, i64_w, i32_w]
              rfl
            refine pure_ (i := 16) (N := some 54) (v := ?_) (a' := ?_) #[true, true, true, true, true, true, true, true, true, true, true, true, true, true, true, true, true, true, true, false, false, true, true, false, false, false, true, true, false, true, false] rfl rfl (by kernel_rfl) (fun _ _ _ h => h) (Or.inl ⟨by rfl, ?_⟩) ?_ ?_
            rotate_left
            · intro w'
              go_simp
              with_reducible rfl
            rotate_left
            · simp only [Act.put, List.setIfInBounds_toArray, List.set_cons_zero, List.set_cons_succ, i64_w, i32_w]
              rfl
            refine one_ (i := 19) (N := some 57) #[true, true, true, true, true, true, true, true, true, true, true, true, true, true, true, true, true, true, true, true, false, true, true, false, false, false, true, true, false, true, false] rfl rfl (by kernel_rfl) (by decide) (fun K hK => ?_)
            refine goes_ Try.func90 (by kernel_rfl) rfl #[.slice A36 b36.length (c - 36), .int .i64 8] (by rfl) rfl rfl (by simp only [List.map_toArray, List.map_cons, List.map_nil]; rfl) ?_
            with_reducible refine ((H36.out (((we.drewN (n2 + n5 + n9)).alloc (.cells #[.int .u64 0, .int .i64 0, .int .i64 0, .bool false, .int .i64 0, .int .i64 0, .int .i64 0, .slice none 0 0] 88)).drewN n15) (by repeat (first | exact HBe.out | apply below_alloc | apply pw_below_drewN)))).mono ?_
            rintro e u19 ⟨rfl, ⟨n19, rfl⟩⟩
            refine ⟨_, rfl, ?_⟩
            refine hK.out _ _ trivial (fun hHeld => ?_)
            clear hK K
            refine norm_ (a' := ?_) ?_ ?_
            rotate_left
            · show Act.put _ (some 57) _ = _
              simp only [Act.put, List.setIfInBounds_toArray, List.set_cons_zero, List.set_cons_succ, i64_w, i32_w]
              rfl
            refine pure_ (i := 20) (N := some 58) (v := ?_) (a' := ?_) #[true, true, true, true, true, true, true, true, true, true, true, true, true, true, true, true, true, true, true, true, true, true, true, false, false, false, true, true, false, true, false] rfl rfl (by kernel_rfl) (fun _ _ _ h => h) (Or.inl ⟨by rfl, ?_⟩) ?_ ?_
            rotate_left
            · intro w'
              go_simp
              with_reducible rfl
            rotate_left
            · simp only [Act.put, List.setIfInBounds_toArray, List.set_cons_zero, List.set_cons_succ, i64_w, i32_w]
              rfl
            refine one_ (i := 23) (N := some 61) #[true, true, true, true, true, true, true, true, true, true, true, true, true, true, true, true, true, true, true, true, true, true, true, true, false, false, true, true, false, true, false] rfl rfl (by kernel_rfl) (by decide) (fun K hK => ?_)
            refine goes_ Try.func90 (by kernel_rfl) rfl #[.slice A44 b44.length (c - 44), .int .i64 8] (by rfl) rfl rfl (by simp only [List.map_toArray, List.map_cons, List.map_nil]; rfl) ?_
            with_reducible refine ((H44.out ((((we.drewN (n2 + n5 + n9)).alloc (.cells #[.int .u64 0, .int .i64 0, .int .i64 0, .bool false, .int .i64 0, .int .i64 0, .int .i64 0, .slice none 0 0] 88)).drewN n15).drewN n19) (by repeat (first | exact HBe.out | apply below_alloc | apply pw_below_drewN)))).mono ?_
            rintro e u23 ⟨rfl, ⟨n23, rfl⟩⟩
            refine ⟨_, rfl, ?_⟩
            refine hK.out _ _ trivial (fun hHeld => ?_)
            clear hK K
            refine norm_ (a' := ?_) ?_ ?_
            rotate_left
            · show Act.put _ (some 61) _ = _
              simp only [Act.put, List.setIfInBounds_toArray, List.set_cons_zero, List.set_cons_succ, i64_w, i32_w]
              rfl
            refine pure_ (i := 24) (N := some 62) (v := ?_) (a' := ?_) #[true, true, true, true, true, true, true, true, true, true, true, true, true, true, true, true, true, true, true, true, true, true, true, true, true, false, true, true, false, true, false] rfl rfl (by kernel_rfl) (fun _ _ _ h => h) (Or.inl ⟨by rfl, ?_⟩) ?_ ?_
            rotate_left
            · intro w'
              go_simp
              with_reducible rfl
            rotate_left
            · simp only [Act.put, List.setIfInBounds_toArray, List.set_cons_zero, List.set_cons_succ, i64_w, i32_w]
              rfl
            refine pure_ (i := 25) (N := some 63) (v := ?_) (a' := ?_) #[true, true, true, true, true, true, true, true, true, true, true, true, true, true, true, true, true, true, true, true, true, true, true, true, true, true, true, true, false, true, false] rfl rfl (by kernel_rfl) (fun _ _ _ h => h) (Or.inl ⟨by rfl, ?_⟩) ?_ ?_
            rotate_left
            · intro w'
              go_simp
              with_reducible rfl
            rotate_left
            · simp only [Act.put, List.setIfInBounds_toArray, List.set_cons_zero, List.set_cons_succ, i64_w, i32_w]
              rfl
            refine pure_ (i := 28) (N := some 66) (v := ?_) (a' := ?_) #[true, true, true, true, true, true, true, true, true, true, true, true, true, true, true, true, true, true, true, true, true, true, true, true, true, true, true, true, true, true, false] rfl rfl (by kernel_rfl) (fun _ _ _ h => h) (Or.inl ⟨by rfl, ?_⟩) ?_ ?_
            rotate_left
            · intro w'
              go_simp
              with_reducible rfl
            rotate_left
            · simp only [Act.put, List.setIfInBounds_toArray, List.set_cons_zero, List.set_cons_succ, i64_w, i32_w]
              rfl
            exact norm_ (by simp only [putAll, Act.put, List.setIfInBounds_toArray, List.set_cons_zero, List.set_cons_succ]) (hCont () _ ⟨(by repeat (first | exact Below.refl we.heap.size we | apply below_alloc | apply pw_below_drewN)), (show (((((we.drewN (n2 + n5 + n9)).alloc (.cells #[.int .u64 0, .int .i64 0, .int .i64 0, .bool false, .int .i64 0, .int .i64 0, .int .i64 0, .slice none 0 0] 88)).drewN n15).drewN n19).drewN n23).heap[we.heap.size]? = some (.cells #[.int .u64 0, .int .i64 0, .int .i64 0, .bool false, .int .i64 0, .int .i64 0, .int .i64 0, .slice none 0 0] 88 (0, 0)) from heap_alloc_new _ _)⟩)
        · skip
          refine value_ (w1 := ?_) (v := ?_) (by rfl) rfl ?_ ?_
          rotate_left 2
          · go_simp
            constructor
            · rfl
            · rfl
          refine hK.out _ _ trivial (fun hHeld => ?_)
          clear hK K
          refine norm_ (a' := ?_) ?_ ?_
          rotate_left
          · show Act.put _ (some 5) _ = _
            simp only [Act.put, List.setIfInBounds_toArray, List.set_cons_zero, List.set_cons_succ, i64_w, i32_w]
            rfl
          refine one_ (i := 9) (N := some 47) #[true, true, true, true, true, true, true, true, true, true, false, true, true, true, true, false, false, true, true, false, false, true, true, false, false, false, true, true, false, true, false] rfl rfl (by kernel_rfl) (by decide) (fun K hK => ?_)
          refine goes_ Try.func90 (by kernel_rfl) rfl #[.slice A20 b20.length (c - 20), .int .i64 4] (by rfl) rfl rfl (by simp only [List.map_toArray, List.map_cons, List.map_nil]; rfl) ?_
          with_reducible refine ((H20.out ((we.drewN (n2 + n5)).alloc (.cells #[.int .u64 0, .int .i64 0, .int .i64 0, .bool false, .int .i64 0, .int .i64 0, .int .i64 0, .slice none 0 0] 88)) (by repeat (first | exact HBe.out | apply below_alloc | apply pw_below_drewN)))).mono ?_
          rintro e u9 ⟨rfl, ⟨n9, rfl⟩⟩
          refine ⟨_, rfl, ?_⟩
          refine hK.out _ _ trivial (fun hHeld => ?_)
          clear hK K
          refine norm_ (a' := ?_) ?_ ?_
          rotate_left
          · show Act.put _ (some 47) _ = _
            simp only [Act.put, List.setIfInBounds_toArray, List.set_cons_zero, List.set_cons_succ, i64_w, i32_w]
            rfl
          refine pure_ (i := 10) (N := some 48) (v := ?_) (a' := ?_) #[true, true, true, true, true, true, true, true, true, true, true, true, true, true, true, false, false, true, true, false, false, true, true, false, false, false, true, true, false, true, false] rfl rfl (by kernel_rfl) (fun _ _ _ h => h) (Or.inl ⟨by rfl, ?_⟩) ?_ ?_
          rotate_left
          · intro w'
            go_simp
            with_reducible rfl
          rotate_left
          · simp only [Act.put, List.setIfInBounds_toArray, List.set_cons_zero, List.set_cons_succ, i64_w, i32_w]
            rfl
          refine one_ (i := 15) (N := some 53) #[true, true, true, true, true, true, true, true, true, true, true, true, true, true, true, true, false, true, true, false, false, true, true, false, false, false, true, true, false, true, false] rfl rfl (by kernel_rfl) (by decide) (fun K hK => ?_)
          refine goes_ Try.func90 (by kernel_rfl) rfl #[.slice A28 b28.length (c - 28), .int .i64 8] (by rfl) rfl rfl (by simp only [List.map_toArray, List.map_cons, List.map_nil]; rfl) ?_
          with_reducible refine ((H28.out (((we.drewN (n2 + n5)).alloc (.cells #[.int .u64 0, .int .i64 0, .int .i64 0, .bool false, .int .i64 0, .int .i64 0, .int .i64 0, .slice none 0 0] 88)).drewN n9) (by repeat (first | exact HBe.out | apply below_alloc | apply pw_below_drewN)))).mono ?_
          rintro e u15 ⟨rfl, ⟨n15, rfl⟩⟩
          refine ⟨_, rfl, ?_⟩
          refine hK.out _ _ trivial (fun hHeld => ?_)
          clear hK K
          refine norm_ (a' := ?_) ?_ ?_
          rotate_left
          · show Act.put _ (some 53) _ = _
            simp only [Act.put, List.setIfInBounds_toArray, List.set_cons_zero, List.set_cons_succ, i64_w, i32_w]
            rfl
          refine pure_ (i := 16) (N := some 54) (v := ?_) (a' := ?_) #[true, true, true, true, true, true, true, true, true, true, true, true, true, true, true, true, true, true, true, false, false, true, true, false, false, false, true, true, false, true, false] rfl rfl (by kernel_rfl) (fun _ _ _ h => h) (Or.inl ⟨by rfl, ?_⟩) ?_ ?_
          rotate_left
          · intro w'
            go_simp
            with_reducible rfl
          rotate_left
          · simp only [Act.put, List.setIfInBounds_toArray, List.set_cons_zero, List.set_cons_succ, i64_w, i32_w]
            rfl
          refine one_ (i := 19) (N := some 57) #[true, true, true, true, true, true, true, true, true, true, true, true, true, true, true, true, true, true, true, true, false, true, true, false, false, false, true, true, false, true, false] rfl rfl (by kernel_rfl) (by decide) (fun K hK => ?_)
          refine goes_ Try.func90 (by kernel_rfl) rfl #[.slice A36 b36.length (c - 36), .int .i64 8] (by rfl) rfl rfl (by simp only [List.map_toArray, List.map_cons, List.map_nil]; rfl) ?_
          with_reducible refine ((H36.out ((((we.drewN (n2 + n5)).alloc (.cells #[.int .u64 0, .int .i64 0, .int .i64 0, .bool false, .int .i64 0, .int .i64 0, .int .i64 0, .slice none 0 0] 88)).drewN n9).drewN n15) (by repeat (first | exact HBe.out | apply below_alloc | apply pw_below_drewN)))).mono ?_
          rintro e u19 ⟨rfl, ⟨n19, rfl⟩⟩
          refine ⟨_, rfl, ?_⟩
          refine hK.out _ _ trivial (fun hHeld => ?_)
          clear hK K
          refine norm_ (a' := ?_) ?_ ?_
          rotate_left
          · show Act.put _ (some 57) _ = _
            simp only [Act.put, List.setIfInBounds_toArray, List.set_cons_zero, List.set_cons_succ, i64_w, i32_w]
            rfl
          refine pure_ (i := 20) (N := some 58) (v := ?_) (a' := ?_) #[true, true, true, true, true, true, true, true, true, true, true, true, true, true, true, true, true, true, true, true, true, true, true, false, false, false, true, true, false, true, false] rfl rfl (by kernel_rfl) (fun _ _ _ h => h) (Or.inl ⟨by rfl, ?_⟩) ?_ ?_
          rotate_left
          · intro w'
            go_simp
            with_reducible rfl
          rotate_left
          · simp only [Act.put, List.setIfInBounds_toArray, List.set_cons_zero, List.set_cons_succ, i64_w, i32_w]
            rfl
          refine one_ (i := 23) (N := some 61) #[true, true, true, true, true, true, true, true, true, true, true, true, true, true, true, true, true, true, true, true, true, true, true, true, false, false, true, true, false, true, false] rfl rfl (by kernel_rfl) (by decide) (fun K hK => ?_)
          refine goes_ Try.func90 (by kernel_rfl) rfl #[.slice A44 b44.length (c - 44), .int .i64 8] (by rfl) rfl rfl (by simp only [List.map_toArray, List.map_cons, List.map_nil]; rfl) ?_
          with_reducible refine ((H44.out (((((we.drewN (n2 + n5)).alloc (.cells #[.int .u64 0, .int .i64 0, .int .i64 0, .bool false, .int .i64 0, .int .i64 0, .int .i64 0, .slice none 0 0] 88)).drewN n9).drewN n15).drewN n19) (by repeat (first | exact HBe.out | apply below_alloc | apply pw_below_drewN)))).mono ?_
          rintro e u23 ⟨rfl, ⟨n23, rfl⟩⟩
          refine ⟨_, rfl, ?_⟩
          refine hK.out _ _ trivial (fun hHeld => ?_)
          clear hK K
          refine norm_ (a' := ?_) ?_ ?_
          rotate_left
          · show Act.put _ (some 61) _ = _
            simp only [Act.put, List.setIfInBounds_toArray, List.set_cons_zero, List.set_cons_succ, i64_w, i32_w]
            rfl
          refine pure_ (i := 24) (N := some 62) (v := ?_) (a' := ?_) #[true, true, true, true, true, true, true, true, true, true, true, true, true, true, true, true, true, true, true, true, true, true, true, true, true, false, true, true, false, true, false] rfl rfl (by kernel_rfl) (fun _ _ _ h => h) (Or.inl ⟨by rfl, ?_⟩) ?_ ?_
          rotate_left
          · intro w'
            go_simp
            with_reducible rfl
          rotate_left
          · simp only [Act.put, List.setIfInBounds_toArray, List.set_cons_zero, List.set_cons_succ, i64_w, i32_w]
            rfl
          refine pure_ (i := 25) (N := some 63) (v := ?_) (a' := ?_) #[true, true, true, true, true, true, true, true, true, true, true, true, true, true, true, true, true, true, true, true, true, true, true, true, true, true, true, true, false, true, false] rfl rfl (by kernel_rfl) (fun _ _ _ h => h) (Or.inl ⟨by rfl, ?_⟩) ?_ ?_
          rotate_left
          · intro w'
            go_simp
            with_reducible rfl
          rotate_left
          · simp only [Act.put, List.setIfInBounds_toArray, List.set_cons_zero, List.set_cons_succ, i64_w, i32_w]
            rfl
          refine pure_ (i := 28) (N := some 66) (v := ?_) (a' := ?_) #[true, true, true, true, true, true, true, true, true, true, true, true, true, true, true, true, true, true, true, true, true, true, true, true, true, true, true, true, true, true, false] rfl rfl (by kernel_rfl) (fun _ _ _ h => h) (Or.inl ⟨by rfl, ?_⟩) ?_ ?_
          rotate_left
          · intro w'
            go_simp
            with_reducible rfl
          rotate_left
          · simp only [Act.put, List.setIfInBounds_toArray, List.set_cons_zero, List.set_cons_succ, i64_w, i32_w]
            rfl
          exact norm_ (by simp only [putAll, Act.put, List.setIfInBounds_toArray, List.set_cons_zero, List.set_cons_succ]) (hCont () _ ⟨(by repeat (first | exact Below.refl we.heap.size we | apply below_alloc | apply pw_below_drewN)), (show ((((((we.drewN (n2 + n5)).alloc (.cells #[.int .u64 0, .int .i64 0, .int .i64 0, .bool false, .int .i64 0, .int .i64 0, .int .i64 0, .slice none 0 0] 88)).drewN n9).drewN n15).drewN n19).drewN n23).heap[we.heap.size]? = some (.cells #[.int .u64 0, .int .i64 0, .int .i64 0, .bool false, .int .i64 0, .int .i64 0, .int .i64 0, .slice none 0 0] 88 (0, 0)) from heap_alloc_new _ _)⟩)
      · skip
        refine value_ (w1 := ?_) (v := ?_) (by rfl) rfl ?_ ?_
        rotate_left 2
        · go_simp
          constructor
          · rfl
          · rfl
        refine hK.out _ _ trivial (fun hHeld => ?_)
        clear hK K
        refine norm_ (a' := ?_) ?_ ?_
        rotate_left
        · show Act.put _ (some 5) _ = _
          simp only [Act.put, List.setIfInBounds_toArray, List.set_cons_zero, List.set_cons_succ, i64_w, i32_w]
          rfl
        refine one_ (i := 5) (N := some 43) #[true, true, true, true, true, true, false, true, true, false, false, true, true, true, true, false, false, true, true, false, false, true, true, false, false, false, true, true, false, true, false] rfl rfl (by kernel_rfl) (by decide) (fun K hK => ?_)
        refine goes_ Try.func90 (by kernel_rfl) rfl #[.slice A16 b16.length (c - 16), .int .i64 4] (by rfl) rfl rfl (by simp only [List.map_toArray, List.map_cons, List.map_nil]; rfl) ?_
        with_reducible refine ((H16.out ((we.drewN n2).alloc (.cells #[.int .u64 0, .int .i64 0, .int .i64 0, .bool false, .int .i64 0, .int .i64 0, .int .i64 0, .slice none 0 0] 88)) (by repeat (first | exact HBe.out | apply below_alloc | apply pw_below_drewN)))).mono ?_
        rintro e u5 ⟨rfl, ⟨n5, rfl⟩⟩
        refine ⟨_, rfl, ?_⟩
        refine hK.out _ _ trivial (fun hHeld => ?_)
        clear hK K
        refine norm_ (a' := ?_) ?_ ?_
        rotate_left
        · show Act.put _ (some 43) _ = _
          simp only [Act.put, List.setIfInBounds_toArray, List.set_cons_zero, List.set_cons_succ, i64_w, i32_w]
          rfl
        refine pure_ (i := 6) (N := some 44) (v := ?_) (a' := ?_) #[true, true, true, true, true, true, true, true, true, false, false, true, true, true, true, false, false, true, true, false, false, true, true, false, false, false, true, true, false, true, false] rfl rfl (by kernel_rfl) (fun _ _ _ h => h) (Or.inl ⟨by rfl, ?_⟩) ?_ ?_
        rotate_left
        · intro w'
          go_simp
          with_reducible rfl
        rotate_left
        · simp only [Act.put, List.setIfInBounds_toArray, List.set_cons_zero, List.set_cons_succ, i64_w, i32_w]
          rfl
        refine one_ (i := 9) (N := some 47) #[true, true, true, true, true, true, true, true, true, true, false, true, true, true, true, false, false, true, true, false, false, true, true, false, false, false, true, true, false, true, false] rfl rfl (by kernel_rfl) (by decide) (fun K hK => ?_)
        refine goes_ Try.func90 (by kernel_rfl) rfl #[.slice A20 b20.length (c - 20), .int .i64 4] (by rfl) rfl rfl (by simp only [List.map_toArray, List.map_cons, List.map_nil]; rfl) ?_
        with_reducible refine ((H20.out (((we.drewN n2).alloc (.cells #[.int .u64 0, .int .i64 0, .int .i64 0, .bool false, .int .i64 0, .int .i64 0, .int .i64 0, .slice none 0 0] 88)).drewN n5) (by repeat (first | exact HBe.out | apply below_alloc | apply pw_below_drewN)))).mono ?_
        rintro e u9 ⟨rfl, ⟨n9, rfl⟩⟩
        refine ⟨_, rfl, ?_⟩
        refine hK.out _ _ trivial (fun hHeld => ?_)
        clear hK K
        refine norm_ (a' := ?_) ?_ ?_
        rotate_left
        · show Act.put _ (some 47) _ = _
          simp only [Act.put, List.setIfInBounds_toArray, List.set_cons_zero, List.set_cons_succ, i64_w, i32_w]
          rfl
        refine pure_ (i := 10) (N := some 48) (v := ?_) (a' := ?_) #[true, true, true, true, true, true, true, true, true, true, true, true, true, true, true, false, false, true, true, false, false, true, true, false, false, false, true, true, false, true, false] rfl rfl (by kernel_rfl) (fun _ _ _ h => h) (Or.inl ⟨by rfl, ?_⟩) ?_ ?_
        rotate_left
        · intro w'
          go_simp
          with_reducible rfl
        rotate_left
        · simp only [Act.put, List.setIfInBounds_toArray, List.set_cons_zero, List.set_cons_succ, i64_w, i32_w]
          rfl
        refine one_ (i := 15) (N := some 53) #[true, true, true, true, true, true, true, true, true, true, true, true, true, true, true, true, false, true, true, false, false, true, true, false, false, false, true, true, false, true, false] rfl rfl (by kernel_rfl) (by decide) (fun K hK => ?_)
        refine goes_ Try.func90 (by kernel_rfl) rfl #[.slice A28 b28.length (c - 28), .int .i64 8] (by rfl) rfl rfl (by simp only [List.map_toArray, List.map_cons, List.map_nil]; rfl) ?_
        with_reducible refine ((H28.out ((((we.drewN n2).alloc (.cells #[.int .u64 0, .int .i64 0, .int .i64 0, .bool false, .int .i64 0, .int .i64 0, .int .i64 0, .slice none 0 0] 88)).drewN n5).drewN n9) (by repeat (first | exact HBe.out | apply below_alloc | apply pw_below_drewN)))).mono ?_
        rintro e u15 ⟨rfl, ⟨n15, rfl⟩⟩
        refine ⟨_, rfl, ?_⟩
        refine hK.out _ _ trivial (fun hHeld => ?_)
        clear hK K
        refine norm_ (a' := ?_) ?_ ?_
        rotate_left
        · show Act.put _ (some 53) _ = _
          simp only [Act.put, List.setIfInBounds_toArray, List.set_cons_zero, List.set_cons_succ, i64_w, i32_w]
          rfl
        refine pure_ (i := 16) (N := some 54) (v := ?_) (a' := ?_) #[true, true, true, true, true, true, true, true, true, true, true, true, true, true, true, true, true, true, true, false, false, true, true, false, false, false, true, true, false, true, false] rfl rfl (by kernel_rfl) (fun _ _ _ h => h) (Or.inl ⟨by rfl, ?_⟩) ?_ ?_
        rotate_left
        · intro w'
          go_simp
          with_reducible rfl
        rotate_left
        · simp only [Act.put, List.setIfInBounds_toArray, List.set_cons_zero, List.set_cons_succ, i64_w, i32_w]
          rfl
        refine one_ (i := 19) (N := some 57) #[true, true, true, true, true, true, true, true, true, true, true, true, true, true, true, true, true, true, true, true, false, true, true, false, false, false, true, true, false, true, false] rfl rfl (by kernel_rfl) (by decide) (fun K hK => ?_)
        refine goes_ Try.func90 (by kernel_rfl) rfl #[.slice A36 b36.length (c - 36), .int .i64 8] (by rfl) rfl rfl (by simp only [List.map_toArray, List.map_cons, List.map_nil]; rfl) ?_
        with_reducible refine ((H36.out (((((we.drewN n2).alloc (.cells #[.int .u64 0, .int .i64 0, .int .i64 0, .bool false, .int .i64 0, .int .i64 0, .int .i64 0, .slice none 0 0] 88)).drewN n5).drewN n9).drewN n15) (by repeat (first | exact HBe.out | apply below_alloc | apply pw_below_drewN)))).mono ?_
        rintro e u19 ⟨rfl, ⟨n19, rfl⟩⟩
        refine ⟨_, rfl, ?_⟩
        refine hK.out _ _ trivial (fun hHeld => ?_)
        clear hK K
        refine norm_ (a' := ?_) ?_ ?_
        rotate_left
        · show Act.put _ (some 57) _ = _
          simp only [Act.put, List.setIfInBounds_toArray, List.set_cons_zero, List.set_cons_succ, i64_w, i32_w]
          rfl
        refine pure_ (i := 20) (N := some 58) (v := ?_) (a' := ?_) #[true, true, true, true, true, true, true, true, true, true, true, true, true, true, true, true, true, true, true, true, true, true, true, false, false, false, true, true, false, true, false] rfl rfl (by kernel_rfl) (fun _ _ _ h => h) (Or.inl ⟨by rfl, ?_⟩) ?_ ?_
        rotate_left
        · intro w'
          go_simp
          with_reducible rfl
        rotate_left
        · simp only [Act.put, List.setIfInBounds_toArray, List.set_cons_zero, List.set_cons_succ, i64_w, i32_w]
          rfl
        refine one_ (i := 23) (N := some 61) #[true, true, true, true, true, true, true, true, true, true, true, true, true, true, true, true, true, true, true, true, true, true, true, true, false, false, true, true, false, true, false] rfl rfl (by kernel_rfl) (by decide) (fun K hK => ?_)
        refine goes_ Try.func90 (by kernel_rfl) rfl #[.slice A44 b44.length (c - 44), .int .i64 8] (by rfl) rfl rfl (by simp only [List.map_toArray, List.map_cons, List.map_nil]; rfl) ?_
        with_reducible refine ((H44.out ((((((we.drewN n2).alloc (.cells #[.int .u64 0, .int .i64 0, .int .i64 0, .bool false, .int .i64 0, .int .i64 0, .int .i64 0, .slice none 0 0] 88)).drewN n5).drewN n9).drewN n15).drewN n19) (by repeat (first | exact HBe.out | apply below_alloc | apply pw_below_drewN)))).mono ?_
        rintro e u23 ⟨rfl, ⟨n23, rfl⟩⟩
        refine ⟨_, rfl, ?_⟩
        refine hK.out _ _ trivial (fun hHeld => ?_)
        clear hK K
        refine norm_ (a' := ?_) ?_ ?_
        rotate_left
        · show Act.put _ (some 61) _ = _
          simp only [Act.put, List.setIfInBounds_toArray, List.set_cons_zero, List.set_cons_succ, i64_w, i32_w]
          rfl
        refine pure_ (i := 24) (N := some 62) (v := ?_) (a' := ?_) #[true, true, true, true, true, true, true, true, true, true, true, true, true, true, true, true, true, true, true, true, true, true, true, true, true, false, true, true, false, true, false] rfl rfl (by kernel_rfl) (fun _ _ _ h => h) (Or.inl ⟨by rfl, ?_⟩) ?_ ?_
        rotate_left
        · intro w'
          go_simp
          with_reducible rfl
        rotate_left
        · simp only [Act.put, List.setIfInBounds_toArray, List.set_cons_zero, List.set_cons_succ, i64_w, i32_w]
          rfl
        refine pure_ (i := 25) (N := some 63) (v := ?_) (a' := ?_) #[true, true, true, true, true, true, true, true, true, true, true, true, true, true, true, true, true, true, true, true, true, true, true, true, true, true, true, true, false, true, false] rfl rfl (by kernel_rfl) (fun _ _ _ h => h) (Or.inl ⟨by rfl, ?_⟩) ?_ ?_
        rotate_left
        · intro w'
          go_simp
          with_reducible rfl
        rotate_left
        · simp only [Act.put, List.setIfInBounds_toArray, List.set_cons_zero, List.set_cons_succ, i64_w, i32_w]
          rfl
        refine pure_ (i := 28) (N := some 66) (v := ?_) (a' := ?_) #[true, true, true, true, true, true, true, true, true, true, true, true, true, true, true, true, true, true, true, true, true, true, true, true, true, true, true, true, true, true, false] rfl rfl (by kernel_rfl) (fun _ _ _ h => h) (Or.inl ⟨by rfl, ?_⟩) ?_ ?_
        rotate_left
        · intro w'
          go_simp
          with_reducible rfl
        rotate_left
        · simp only [Act.put, List.setIfInBounds_toArray, List.set_cons_zero, List.set_cons_succ, i64_w, i32_w]
          rfl
        exact norm_ (by simp only [putAll, Act.put, List.setIfInBounds_toArray, List.set_cons_zero, List.set_cons_succ]) (hCont () _ ⟨(by repeat (first | exact Below.refl we.heap.size we | apply below_alloc | apply pw_below_drewN)), (show (((((((we.drewN n2).alloc (.cells #[.int .u64 0, .int .i64 0, .int .i64 0, .bool false, .int .i64 0, .int .i64 0, .int .i64 0, .slice none 0 0] 88)).drewN n5).drewN n9).drewN n15).drewN n19).drewN n23).heap[we.heap.size]? = some (.cells #[.int .u64 0, .int .i64 0, .int .i64 0, .bool false, .int .i64 0, .int .i64 0, .int .i64 0, .slice none 0 0] 88 (0, 0)) from heap_alloc_new _ _)⟩)
    · skip
      refine value_ (w1 := ?_) (v := ?_) (by rfl) rfl ?_ ?_
      rotate_left 2
      · go_simp
        constructor
        · rfl
        · rfl
      refine hK.out _ _ trivial (fun hHeld => ?_)
      clear hK K
      refine norm_ (a' := ?_) ?_ ?_
      rotate_left
      · show Act.put _ (some 5) _ = _
        simp only [Act.put, List.setIfInBounds_toArray, List.set_cons_zero, List.set_cons_succ, i64_w, i32_w]
        rfl
      refine one_ (i := 2) (N := some 40) #[true, true, true, true, true, false, false, true, true, false, false, true, true, true, true, false, false, true, true, false, false, true, true, false, false, false, true, true, false, true, false] rfl rfl (by kernel_rfl) (by decide) (fun K hK => ?_)
      refine goes_ Try.func90 (by kernel_rfl) rfl #[.slice A8 b8.length (c - 8), .int .i64 8] (by rfl) rfl rfl (by simp only [List.map_toArray, List.map_cons, List.map_nil]; rfl) ?_
      with_reducible refine ((H8.out (we.alloc (.cells #[.int .u64 0, .int .i64 0, .int .i64 0, .bool false, .int .i64 0, .int .i64 0, .int .i64 0, .slice none 0 0] 88)) (by repeat (first | exact HBe.out | apply below_alloc | apply pw_below_drewN)))).mono ?_
      rintro e u2 ⟨rfl, ⟨n2, rfl⟩⟩
      refine ⟨_, rfl, ?_⟩
      refine hK.out _ _ trivial (fun hHeld => ?_)
      clear hK K
      refine norm_ (a' := ?_) ?_ ?_
      rotate_left
      · show Act.put _ (some 40) _ = _
        simp only [Act.put, List.setIfInBounds_toArray, List.set_cons_zero, List.set_cons_succ, i64_w, i32_w]
        rfl
      refine one_ (i := 5) (N := some 43) #[true, true, true, true, true, true, false, true, true, false, false, true, true, true, true, false, false, true, true, false, false, true, true, false, false, false, true, true, false, true, false] rfl rfl (by kernel_rfl) (by decide) (fun K hK => ?_)
      refine goes_ Try.func90 (by kernel_rfl) rfl #[.slice A16 b16.length (c - 16), .int .i64 4] (by rfl) rfl rfl (by simp only [List.map_toArray, List.map_cons, List.map_nil]; rfl) ?_
      with_reducible refine ((H16.out ((we.alloc (.cells #[.int .u64 0, .int .i64 0, .int .i64 0, .bool false, .int .i64 0, .int .i64 0, .int .i64 0, .slice none 0 0] 88)).drewN n2) (by repeat (first | exact HBe.out | apply below_alloc | apply pw_below_drewN)))).mono ?_
      rintro e u5 ⟨rfl, ⟨n5, rfl⟩⟩
      refine ⟨_, rfl, ?_⟩
      refine hK.out _ _ trivial (fun hHeld => ?_)
      clear hK K
      refine norm_ (a' := ?_) ?_ ?_
      rotate_left
      · show Act.put _ (some 43) _ = _
        simp only [Act.put, List.setIfInBounds_toArray, List.set_cons_zero, List.set_cons_succ, i64_w, i32_w]
        rfl
      refine pure_ (i := 6) (N := some 44) (v := ?_) (a' := ?_) #[true, true, true, true, true, true, true, true, true, false, false, true, true, true, true, false, false, true, true, false, false, true, true, false, false, false, true, true, false, true, false] rfl rfl (by kernel_rfl) (fun _ _ _ h => h) (Or.inl ⟨by rfl, ?_⟩) ?_ ?_
      rotate_left
      · intro w'
        go_simp
        with_reducible rfl
      rotate_left
      · simp only [Act.put, List.setIfInBounds_toArray, List.set_cons_zero, List.set_cons_succ, i64_w, i32_w]
        rfl
      refine one_ (i := 9) (N := some 47) #[true, true, true, true, true, true, true, true, true, true, false, true, true, true, true, false, false, true, true, false, false, true, true, false, false, false, true, true, false, true, false] rfl rfl (by kernel_rfl) (by decide) (fun K hK => ?_)
      refine goes_ Try.func90 (by kernel_rfl) rfl #[.slice A20 b20.length (c - 20), .int .i64 4] (by rfl) rfl rfl (by simp only [List.map_toArray, List.map_cons, List.map_nil]; rfl) ?_
      with_reducible refine ((H20.out (((we.alloc (.cells #[.int .u64 0, .int .i64 0, .int .i64 0, .bool false, .int .i64 0, .int .i64 0, .int .i64 0, .slice none 0 0] 88)).drewN n2).drewN n5) (by repeat (first | exact HBe.out | apply below_alloc | apply pw_below_drewN)))).mono ?_
      rintro e u9 ⟨rfl, ⟨n9, rfl⟩⟩
      refine ⟨_, rfl, ?_⟩
      refine hK.out _ _ trivial (fun hHeld => ?_)
      clear hK K
      refine norm_ (a' := ?_) ?_ ?_
      rotate_left
      · show Act.put _ (some 47) _ = _
        simp only [Act.put, List.setIfInBounds_toArray, List.set_cons_zero, List.set_cons_succ, i64_w, i32_w]
        rfl
      refine pure_ (i := 10) (N := some 48) (v := ?_) (a' := ?_) #[true, true, true, true, true, true, true, true, true, true, true, true, true, true, true, false, false, true, true, false, false, true, true, false, false, false, true, true, false, true, false] rfl rfl (by kernel_rfl) (fun _ _ _ h => h) (Or.inl ⟨by rfl, ?_⟩) ?_ ?_
      rotate_left
      · intro w'
        go_simp
        with_reducible rfl
      rotate_left
      · simp only [Act.put, List.setIfInBounds_toArray, List.set_cons_zero, List.set_cons_succ, i64_w, i32_w]
        rfl
      refine one_ (i := 15) (N := some 53) #[true, true, true, true, true, true, true, true, true, true, true, true, true, true, true, true, false, true, true, false, false, true, true, false, false, false, true, true, false, true, false] rfl rfl (by kernel_rfl) (by decide) (fun K hK => ?_)
      refine goes_ Try.func90 (by kernel_rfl) rfl #[.slice A28 b28.length (c - 28), .int .i64 8] (by rfl) rfl rfl (by simp only [List.map_toArray, List.map_cons, List.map_nil]; rfl) ?_
      with_reducible refine ((H28.out ((((we.alloc (.cells #[.int .u64 0, .int .i64 0, .int .i64 0, .bool false, .int .i64 0, .int .i64 0, .int .i64 0, .slice none 0 0] 88)).drewN n2).drewN n5).drewN n9) (by repeat (first | exact HBe.out | apply below_alloc | apply pw_below_drewN)))).mono ?_
      rintro e u15 ⟨rfl, ⟨n15, rfl⟩⟩
      refine ⟨_, rfl, ?_⟩
      refine hK.out _ _ trivial (fun hHeld => ?_)
      clear hK K
      refine norm_ (a' := ?_) ?_ ?_
      rotate_left
      · show Act.put _ (some 53) _ = _
        simp only [Act.put, List.setIfInBounds_toArray, List.set_cons_zero, List.set_cons_succ, i64_w, i32_w]
        rfl
      refine pure_ (i := 16) (N := some 54) (v := ?_) (a' := ?_) #[true, true, true, true, true, true, true, true, true, true, true, true, true, true, true, true, true, true, true, false, false, true, true, false, false, false, true, true, false, true, false] rfl rfl (by kernel_rfl) (fun _ _ _ h => h) (Or.inl ⟨by rfl, ?_⟩) ?_ ?_
      rotate_left
      · intro w'
        go_simp
        with_reducible rfl
      rotate_left
      · simp only [Act.put, List.setIfInBounds_toArray, List.set_cons_zero, List.set_cons_succ, i64_w, i32_w]
        rfl
      refine one_ (i := 19) (N := some 57) #[true, true, true, true, true, true, true, true, true, true, true, true, true, true, true, true, true, true, true, true, false, true, true, false, false, false, true, true, false, true, false] rfl rfl (by kernel_rfl) (by decide) (fun K hK => ?_)
      refine goes_ Try.func90 (by kernel_rfl) rfl #[.slice A36 b36.length (c - 36), .int .i64 8] (by rfl) rfl rfl (by simp only [List.map_toArray, List.map_cons, List.map_nil]; rfl) ?_
      with_reducible refine ((H36.out (((((we.alloc (.cells #[.int .u64 0, .int .i64 0, .int .i64 0, .bool false, .int .i64 0, .int .i64 0, .int .i64 0, .slice none 0 0] 88)).drewN n2).drewN n5).drewN n9).drewN n15) (by repeat (first | exact HBe.out | apply below_alloc | apply pw_below_drewN)))).mono ?_
      rintro e u19 ⟨rfl, ⟨n19, rfl⟩⟩
      refine ⟨_, rfl, ?_⟩
      refine hK.out _ _ trivial (fun hHeld => ?_)
      clear hK K
      refine norm_ (a' := ?_) ?_ ?_
      rotate_left
      · show Act.put _ (some 57) _ = _
        simp only [Act.put, List.setIfInBounds_toArray, List.set_cons_zero, List.set_cons_succ, i64_w, i32_w]
        rfl
      refine pure_ (i := 20) (N := some 58) (v := ?_) (a' := ?_) #[true, true, true, true, true, true, true, true, true, true, true, true, true, true, true, true, true, true, true, true, true, true, true, false, false, false, true, true, false, true, false] rfl rfl (by kernel_rfl) (fun _ _ _ h => h) (Or.inl ⟨by rfl, ?_⟩) ?_ ?_
      rotate_left
      · intro w'
        go_simp
        with_reducible rfl
      rotate_left
      · simp only [Act.put, List.setIfInBounds_toArray, List.set_cons_zero, List.set_cons_succ, i64_w, i32_w]
        rfl
      refine one_ (i := 23) (N := some 61) #[true, true, true, true, true, true, true, true, true, true, true, true, true, true, true, true, true, true, true, true, true, true, true, true, false, false, true, true, false, true, false] rfl rfl (by kernel_rfl) (by decide) (fun K hK => ?_)
      refine goes_ Try.func90 (by kernel_rfl) rfl #[.slice A44 b44.length (c - 44), .int .i64 8] (by rfl) rfl rfl (by simp only [List.map_toArray, List.map_cons, List.map_nil]; rfl) ?_
      with_reducible refine ((H44.out ((((((we.alloc (.cells #[.int .u64 0, .int .i64 0, .int .i64 0, .bool false, .int .i64 0, .int .i64 0, .int .i64 0, .slice none 0 0] 88)).drewN n2).drewN n5).drewN n9).drewN n15).drewN n19) (by repeat (first | exact HBe.out | apply below_alloc | apply pw_below_drewN)))).mono ?_
      rintro e u23 ⟨rfl, ⟨n23, rfl⟩⟩
      refine ⟨_, rfl, ?_⟩
      refine hK.out _ _ trivial (fun hHeld => ?_)
      clear hK K
      refine norm_ (a' := ?_) ?_ ?_
      rotate_left
      · show Act.put _ (some 61) _ = _
        simp only [Act.put, List.setIfInBounds_toArray, List.set_cons_zero, List.set_cons_succ, i64_w, i32_w]
        rfl
      refine pure_ (i := 24) (N := some 62) (v := ?_) (a' := ?_) #[true, true, true, true, true, true, true, true, true, true, true, true, true, true, true, true, true, true, true, true, true, true, true, true, true, false, true, true, false, true, false] rfl rfl (by kernel_rfl) (fun _ _ _ h => h) (Or.inl ⟨by rfl, ?_⟩) ?_ ?_
      rotate_left
      · intro w'
        go_simp
        with_reducible rfl
      rotate_left
      · simp only [Act.put, List.setIfInBounds_toArray, List.set_cons_zero, List.set_cons_succ, i64_w, i32_w]
        rfl
      refine pure_ (i := 25) (N := some 63) (v := ?_) (a' := ?_) #[true, true, true, true, true, true, true, true, true, true, true, true, true, true, true, true, true, true, true, true, true, true, true, true, true, true, true, true, false, true, false] rfl rfl (by kernel_rfl) (fun _ _ _ h => h) (Or.inl ⟨by rfl, ?_⟩) ?_ ?_
      rotate_left
      · intro w'
        go_simp
        with_reducible rfl
      rotate_left
      · simp only [Act.put, List.setIfInBounds_toArray, List.set_cons_zero, List.set_cons_succ, i64_w, i32_w]
        rfl
      refine pure_ (i := 28) (N := some 66) (v := ?_) (a' := ?_) #[true, true, true, true, true, true, true, true, true, true, true, true, true, true, true, true, true, true, true, true, true, true, true, true, true, true, true, true, true, true, false] rfl rfl (by kernel_rfl) (fun _ _ _ h => h) (Or.inl ⟨by rfl, ?_⟩) ?_ ?_
      rotate_left
      · intro w'
        go_simp
        with_reducible rfl
      rotate_left
      · simp only [Act.put, List.setIfInBounds_toArray, List.set_cons_zero, List.set_cons_succ, i64_w, i32_w]
        rfl
      exact norm_ (by simp only [putAll, Act.put, List.setIfInBounds_toArray, List.set_cons_zero, List.set_cons_succ]) (hCont () _ ⟨(by repeat (first | exact Below.refl we.heap.size we | apply below_alloc | apply pw_below_drewN)), (show (((((((we.alloc (.cells #[.int .u64 0, .int .i64 0, .int .i64 0, .bool false, .int .i64 0, .int .i64 0, .int .i64 0, .slice none 0 0] 88)).drewN n2).drewN n5).drewN n9).drewN n15).drewN n19).drewN n23).heap[we.heap.size]? = some (.cells #[.int .u64 0, .int .i64 0, .int .i64 0, .bool false, .int .i64 0, .int .i64 0, .int .i64 0, .slice none 0 0] 88 (0, 0)) from heap_alloc_new _ _)⟩)
  rintro _ w6 ⟨hbn, hgn⟩
  have y0 : w6.cell? ⟨we.heap.size, 0, none⟩ = some (.int .u64 0) := cell_of_row w6 _ 0 _ 88 (0, 0) hgn
  have z0 := blk_frozen hgn 0
  have y1 : w6.cell? ⟨we.heap.size, 1, none⟩ = some (.int .i64 0) := cell_of_row w6 _ 1 _ 88 (0, 0) hgn
  have z1 := blk_frozen hgn 1
  have y2 : w6.cell? ⟨we.heap.size, 2, none⟩ = some (.int .i64 0) := cell_of_row w6 _ 2 _ 88 (0, 0) hgn
  have z2 := blk_frozen hgn 2
  have y3 : w6.cell? ⟨we.heap.size, 3, none⟩ = some (.bool false) := cell_of_row w6 _ 3 _ 88 (0, 0) hgn
  have z3 := blk_frozen hgn 3
  have y4 : w6.cell? ⟨we.heap.size, 4, none⟩ = some (.int .i64 0) := cell_of_row w6 _ 4 _ 88 (0, 0) hgn
  have z4 := blk_frozen hgn 4
  have y5 : w6.cell? ⟨we.heap.size, 5, none⟩ = some (.int .i64 0) := cell_of_row w6 _ 5 _ 88 (0, 0) hgn
  have z5 := blk_frozen hgn 5
  have y6 : w6.cell? ⟨we.heap.size, 6, none⟩ = some (.int .i64 0) := cell_of_row w6 _ 6 _ 88 (0, 0) hgn
  have z6 := blk_frozen hgn 6
  have y7 : w6.cell? ⟨we.heap.size, 7, none⟩ = some (.slice none 0 0) := cell_of_row w6 _ 7 _ 88 (0, 0) hgn
  have z7 := blk_frozen hgn 7
  have hHeld : True := trivial
  refine norm_ (a' := ?_) ?_ ?_
  rotate_left
  · simp only [putAll, Act.put, List.setIfInBounds_toArray, List.set_cons_zero, List.set_cons_succ]
    rfl
  refine last_ (i := 30) (N := none) #[true, true, true, true, true, true, true, true, true, true, true, true, true, true, true, true, true, true, true, true, true, true, true, true, true, true, true, true, true, true, true] rfl rfl (by kernel_rfl) (by decide) (fun K hK => ?_)
  refine skip_ (w1 := ?_) (by rfl) rfl ?_ ?_
  rotate_left
  · go_simp
    rfl
  refine hK.out _ _ ?_
  clear hK K
  refine done_ (by kernel_rfl) ?_
  have h8 := set8 hgn (.int .u64 u8) (.int .i64 u16) (.int .i64 u20) (.bool v3) (.int .i64 v4) (.int .i64 v5) (.int .i64 v6) (.slice A64 b64.length (c - 64))
  clear y0 y1 y2 y3 y4 y5 y6 y7 z0 z1 z2 z3 z4 z5 z6 z7
  have hlt : w.heap.size < we.heap.size := blk_lt HGe.out
  have HGw := (hbn.block _ hlt).trans HGe.out
  have HBz := Aside0.mk (((Fr.of_below (HBe.out.trans (hbn.mono (Nat.le_of_lt hlt))) (fun i => i ≠ we.heap.size)).then h8.2).below (B := w.heap.size) (fun i hi => ⟨hi, by omega⟩))
  have HRz := Aside0.mk (h8.2.heap HGw (by omega))
  have HGz := Aside0.mk h8.1
  have HLT := Aside0.mk hlt
  generalize ((((((((w6.setCell ⟨we.heap.size, 0, none⟩ (.int .u64 u8)).setCell ⟨we.heap.size, 1, none⟩ (.int .i64 u16)).setCell ⟨we.heap.size, 2, none⟩ (.int .i64 u20)).setCell ⟨we.heap.size, 3, none⟩ (.bool v3)).setCell ⟨we.heap.size, 4, none⟩ (.int .i64 v4)).setCell ⟨we.heap.size, 5, none⟩ (.int .i64 v5)).setCell ⟨we.heap.size, 6, none⟩ (.int .i64 v6)).setCell ⟨we.heap.size, 7, none⟩ (.slice A64 b64.length (c - 64))) = wz at HBz HGz HRz h8 ⊢
  clear h8 hlt HGw hbn hgn hHeld HBe HGe HBq HGq HBd HGd HB HG
  (try clear k8 k16 k20 k28 k36 k44 k24 k60 k56 kT)
  (try clear H8 H16 H20 H28 H36 H44 H56 H60 HT)
  generalize we.heap.size = gq at HGz HLT ⊢
  have hgq := (blk_lt HGz.out)
  have y0 : wz.cell? ⟨gq, 0, none⟩ = some (.int .u64 u8) := cell_of_row wz _ 0 _ 88 (0, 0) HGz.out
  have y1 : wz.cell? ⟨gq, 1, none⟩ = some (.int .i64 u16) := cell_of_row wz _ 1 _ 88 (0, 0) HGz.out
  have y2 : wz.cell? ⟨gq, 2, none⟩ = some (.int .i64 u20) := cell_of_row wz _ 2 _ 88 (0, 0) HGz.out
  have y3 : wz.cell? ⟨gq, 3, none⟩ = some (.bool v3) := cell_of_row wz _ 3 _ 88 (0, 0) HGz.out
  have y4 : wz.cell? ⟨gq, 4, none⟩ = some (.int .i64 v4) := cell_of_row wz _ 4 _ 88 (0, 0) HGz.out
  have y5 : wz.cell? ⟨gq, 5, none⟩ = some (.int .i64 v5) := cell_of_row wz _ 5 _ 88 (0, 0) HGz.out
  have y6 : wz.cell? ⟨gq, 6, none⟩ = some (.int .i64 v6) := cell_of_row wz _ 6 _ 88 (0, 0) HGz.out
  have y7 : wz.cell? ⟨gq, 7, none⟩ = some (.slice A64 b64.length (c - 64)) := cell_of_row wz _ 7 _ 88 (0, 0) HGz.out
  cases cn with
  | false =>
    go_upto_region 8 with (go_at_call 91; refine (HCN.out _ HBz.out).mono ?_; rintro e w7 ⟨rfl, hb7⟩; have x6 : w7.cell? ⟨gq, 6, none⟩ = some (.int .i64 v6) := cell_of_row w7 _ 6 _ 88 (0, 0) ((hb7.block _ hgq).trans HGz.out); have x7 : w7.cell? ⟨gq, 7, none⟩ = some (.slice A64 b64.length (c - 64)) := cell_of_row w7 _ 7 _ 88 (0, 0) ((hb7.block _ hgq).trans HGz.out))
    have HB7 := Aside0.mk (HBz.out.trans (hb7.mono (Nat.le_of_lt (blk_lt HRz.out))))
    have HR7 := Aside0.mk ((hb7.block _ (blk_lt HRz.out)).trans HRz.out)
    have HG7 := Aside0.mk ((hb7.block _ hgq).trans HGz.out)
    clear hb7 x6 x7 y0 y1 y2 y3 y4 y5 y6 y7 hgq
    have x0 : w7.cell? ⟨w.heap.size, 0, none⟩ = some (.int .u64 0) := cell_of_row w7 _ 0 _ 88 (0, 0) HR7.out
    have z0 := blk_frozen HR7.out 0
    have x1 : w7.cell? ⟨w.heap.size, 1, none⟩ = some (.int .i64 0) := cell_of_row w7 _ 1 _ 88 (0, 0) HR7.out
    have z1 := blk_frozen HR7.out 1
    have x2 : w7.cell? ⟨w.heap.size, 2, none⟩ = some (.int .i64 0) := cell_of_row w7 _ 2 _ 88 (0, 0) HR7.out
    have z2 := blk_frozen HR7.out 2
    have x3 : w7.cell? ⟨w.heap.size, 3, none⟩ = some (.bool false) := cell_of_row w7 _ 3 _ 88 (0, 0) HR7.out
    have z3 := blk_frozen HR7.out 3
    have x4 : w7.cell? ⟨w.heap.size, 4, none⟩ = some (.int .i64 0) := cell_of_row w7 _ 4 _ 88 (0, 0) HR7.out
    have z4 := blk_frozen HR7.out 4
    have x5 : w7.cell? ⟨w.heap.size, 5, none⟩ = some (.int .i64 0) := cell_of_row w7 _ 5 _ 88 (0, 0) HR7.out
    have z5 := blk_frozen HR7.out 5
    have x6 : w7.cell? ⟨w.heap.size, 6, none⟩ = some (.int .i64 0) := cell_of_row w7 _ 6 _ 88 (0, 0) HR7.out
    have z6 := blk_frozen HR7.out 6
    have x7 : w7.cell? ⟨w.heap.size, 7, none⟩ = some (.slice none 0 0) := cell_of_row w7 _ 7 _ 88 (0, 0) HR7.out
    have z7 := blk_frozen HR7.out 7
    go_wp2_with fail
    have g8 := set8 HR7.out (.int .u64 0) (.int .i64 0) (.int .i64 0) (.bool false) (.int .i64 0) (.int .i64 0) (.int .i64 0) (.slice none 0 0)
    clear x0 x1 x2 x3 x4 x5 x6 x7 z0 z1 z2 z3 z4 z5 z6 z7
    have HBx := Aside0.mk (((Fr.of_below HB7.out (fun i => i ≠ w.heap.size)).then g8.2).below (B := w.heap.size) (fun i hi => ⟨hi, by omega⟩))
    have HGx := Aside0.mk g8.1
    clear g8
    generalize ((((((((w7.setCell ⟨w.heap.size, 0, none⟩ (.int .u64 0)).setCell ⟨w.heap.size, 1, none⟩ (.int .i64 0)).setCell ⟨w.heap.size, 2, none⟩ (.int .i64 0)).setCell ⟨w.heap.size, 3, none⟩ (.bool false)).setCell ⟨w.heap.size, 4, none⟩ (.int .i64 0)).setCell ⟨w.heap.size, 5, none⟩ (.int .i64 0)).setCell ⟨w.heap.size, 6, none⟩ (.int .i64 0)).setCell ⟨w.heap.size, 7, none⟩ (.slice none 0 0)) = wx at HBx HGx ⊢
    have x0 : wx.cell? ⟨w.heap.size, 0, none⟩ = some (.int .u64 0) := cell_of_row wx _ 0 _ 88 (0, 0) HGx.out
    have x1 : wx.cell? ⟨w.heap.size, 1, none⟩ = some (.int .i64 0) := cell_of_row wx _ 1 _ 88 (0, 0) HGx.out
    have x2 : wx.cell? ⟨w.heap.size, 2, none⟩ = some (.int .i64 0) := cell_of_row wx _ 2 _ 88 (0, 0) HGx.out
    have x3 : wx.cell? ⟨w.heap.size, 3, none⟩ = some (.bool false) := cell_of_row wx _ 3 _ 88 (0, 0) HGx.out
    have x4 : wx.cell? ⟨w.heap.size, 4, none⟩ = some (.int .i64 0) := cell_of_row wx _ 4 _ 88 (0, 0) HGx.out
    have x5 : wx.cell? ⟨w.heap.size, 5, none⟩ = some (.int .i64 0) := cell_of_row wx _ 5 _ 88 (0, 0) HGx.out
    have x6 : wx.cell? ⟨w.heap.size, 6, none⟩ = some (.int .i64 0) := cell_of_row wx _ 6 _ 88 (0, 0) HGx.out
    have x7 : wx.cell? ⟨w.heap.size, 7, none⟩ = some (.slice none 0 0) := cell_of_row wx _ 7 _ 88 (0, 0) HGx.out
    (try simp only [Exit.inBlock, Exit.then])
    refine bodyPost_ret (by simp [results, Try.results67, go_sem, x0, x1, x2, x3, x4, x5, x6, x7]; try rfl) rfl ?_
    exact HQ.out _ _ ⟨fun _ => rfl, fun h => absurd h (by decide), fun h => absurd h (by decide), HBx.out⟩
  | true =>
    by_cases h6 : v6 = (b64.length : Int)
    rotate_left
    · have h6b : (v6 != (b64.length : Int)) = true := by simp [h6]
      have HN := Aside0.mk h6
      clear h6
      go_upto_region 8 with (go_at_call 91; refine (HCN.out _ HBz.out).mono ?_; rintro e w7 ⟨rfl, hb7⟩; have x6 : w7.cell? ⟨gq, 6, none⟩ = some (.int .i64 v6) := cell_of_row w7 _ 6 _ 88 (0, 0) ((hb7.block _ hgq).trans HGz.out); have x7 : w7.cell? ⟨gq, 7, none⟩ = some (.slice A64 b64.length (c - 64)) := cell_of_row w7 _ 7 _ 88 (0, 0) ((hb7.block _ hgq).trans HGz.out))
      have HB7 := Aside0.mk (HBz.out.trans (hb7.mono (Nat.le_of_lt (blk_lt HRz.out))))
      have HR7 := Aside0.mk ((hb7.block _ (blk_lt HRz.out)).trans HRz.out)
      have HG7 := Aside0.mk ((hb7.block _ hgq).trans HGz.out)
      clear hb7 x6 x7 y0 y1 y2 y3 y4 y5 y6 y7 hgq
      clear h6b
      have x0 : w7.cell? ⟨w.heap.size, 0, none⟩ = some (.int .u64 0) := cell_of_row w7 _ 0 _ 88 (0, 0) HR7.out
      have z0 := blk_frozen HR7.out 0
      have x1 : w7.cell? ⟨w.heap.size, 1, none⟩ = some (.int .i64 0) := cell_of_row w7 _ 1 _ 88 (0, 0) HR7.out
      have z1 := blk_frozen HR7.out 1
      have x2 : w7.cell? ⟨w.heap.size, 2, none⟩ = some (.int .i64 0) := cell_of_row w7 _ 2 _ 88 (0, 0) HR7.out
      have z2 := blk_frozen HR7.out 2
      have x3 : w7.cell? ⟨w.heap.size, 3, none⟩ = some (.bool false) := cell_of_row w7 _ 3 _ 88 (0, 0) HR7.out
      have z3 := blk_frozen HR7.out 3
      have x4 : w7.cell? ⟨w.heap.size, 4, none⟩ = some (.int .i64 0) := cell_of_row w7 _ 4 _ 88 (0, 0) HR7.out
      have z4 := blk_frozen HR7.out 4
      have x5 : w7.cell? ⟨w.heap.size, 5, none⟩ = some (.int .i64 0) := cell_of_row w7 _ 5 _ 88 (0, 0) HR7.out
      have z5 := blk_frozen HR7.out 5
      have x6 : w7.cell? ⟨w.heap.size, 6, none⟩ = some (.int .i64 0) := cell_of_row w7 _ 6 _ 88 (0, 0) HR7.out
      have z6 := blk_frozen HR7.out 6
      have x7 : w7.cell? ⟨w.heap.size, 7, none⟩ = some (.slice none 0 0) := cell_of_row w7 _ 7 _ 88 (0, 0) HR7.out
      have z7 := blk_frozen HR7.out 7
      go_wp2_with fail
      have g8 := set8 HR7.out (.int .u64 0) (.int .i64 0) (.int .i64 0) (.bool false) (.int .i64 0) (.int .i64 0) (.int .i64 0) (.slice none 0 0)
      clear x0 x1 x2 x3 x4 x5 x6 x7 z0 z1 z2 z3 z4 z5 z6 z7
      have HBx := Aside0.mk (((Fr.of_below HB7.out (fun i => i ≠ w.heap.size)).then g8.2).below (B := w.heap.size) (fun i hi => ⟨hi, by omega⟩))
      have HGx := Aside0.mk g8.1
      clear g8
      generalize ((((((((w7.setCell ⟨w.heap.size, 0, none⟩ (.int .u64 0)).setCell ⟨w.heap.size, 1, none⟩ (.int .i64 0)).setCell ⟨w.heap.size, 2, none⟩ (.int .i64 0)).setCell ⟨w.heap.size, 3, none⟩ (.bool false)).setCell ⟨w.heap.size, 4, none⟩ (.int .i64 0)).setCell ⟨w.heap.size, 5, none⟩ (.int .i64 0)).setCell ⟨w.heap.size, 6, none⟩ (.int .i64 0)).setCell ⟨w.heap.size, 7, none⟩ (.slice none 0 0)) = wx at HBx HGx ⊢
      have x0 : wx.cell? ⟨w.heap.size, 0, none⟩ = some (.int .u64 0) := cell_of_row wx _ 0 _ 88 (0, 0) HGx.out
      have x1 : wx.cell? ⟨w.heap.size, 1, none⟩ = some (.int .i64 0) := cell_of_row wx _ 1 _ 88 (0, 0) HGx.out
      have x2 : wx.cell? ⟨w.heap.size, 2, none⟩ = some (.int .i64 0) := cell_of_row wx _ 2 _ 88 (0, 0) HGx.out
      have x3 : wx.cell? ⟨w.heap.size, 3, none⟩ = some (.bool false) := cell_of_row wx _ 3 _ 88 (0, 0) HGx.out
      have x4 : wx.cell? ⟨w.heap.size, 4, none⟩ = some (.int .i64 0) := cell_of_row wx _ 4 _ 88 (0, 0) HGx.out
      have x5 : wx.cell? ⟨w.heap.size, 5, none⟩ = some (.int .i64 0) := cell_of_row wx _ 5 _ 88 (0, 0) HGx.out
      have x6 : wx.cell? ⟨w.heap.size, 6, none⟩ = some (.int .i64 0) := cell_of_row wx _ 6 _ 88 (0, 0) HGx.out
      have x7 : wx.cell? ⟨w.heap.size, 7, none⟩ = some (.slice none 0 0) := cell_of_row wx _ 7 _ 88 (0, 0) HGx.out
      (try simp only [Exit.inBlock, Exit.then])
      refine bodyPost_ret (by simp [results, Try.results67, go_sem, x0, x1, x2, x3, x4, x5, x6, x7]; try rfl) rfl ?_
      exact HQ.out _ _ ⟨fun _ => rfl, fun _ h => absurd h HN.out, fun _ h => absurd h HN.out, HBx.out⟩
    · have h6b : (v6 != (b64.length : Int)) = false := by simp [h6]
      have HN := Aside0.mk h6
      clear h6
      go_upto_region 9 with (go_at_call 91; refine (HCN.out _ HBz.out).mono ?_; rintro e w7 ⟨rfl, hb7⟩; have x6 : w7.cell? ⟨gq, 6, none⟩ = some (.int .i64 v6) := cell_of_row w7 _ 6 _ 88 (0, 0) ((hb7.block _ hgq).trans HGz.out); have x7 : w7.cell? ⟨gq, 7, none⟩ = some (.slice A64 b64.length (c - 64)) := cell_of_row w7 _ 7 _ 88 (0, 0) ((hb7.block _ hgq).trans HGz.out))
      have HB7 := Aside0.mk (HBz.out.trans (hb7.mono (Nat.le_of_lt (blk_lt HRz.out))))
      have HR7 := Aside0.mk ((hb7.block _ (blk_lt HRz.out)).trans HRz.out)
      have HG7 := Aside0.mk ((hb7.block _ hgq).trans HGz.out)
      clear hb7 x6 x7 y0 y1 y2 y3 y4 y5 y6 y7 hgq
      clear h6b
      have HB7d := Aside0.mk (show Below w.heap.size w w7.drew from below_drew HB7.out)
      have hcm2 : IntKind.u64.wrap s64 = s64 := wrap_u64 ⟨hcb.1, by have := hcb.2; omega⟩
      have x7 : w7.drew.cell? ⟨gq, 7, none⟩ = some (.slice A64 b64.length (c - 64)) := cell_of_row w7.drew _ 7 _ 88 (0, 0) HG7.out
      by_cases hS : u52 = s64
      rotate_left
      · have hSb : (u52 != s64) = true := by simp [hS]
        have HX := Aside0.mk hS
        clear hS
        refine start_ (n := 8) (S := fun w' => w'.cell? ⟨gq, 7, none⟩ = some (.slice A64 b64.length (c - 64))) (ds := []) #[false, false, false, false, false, false, false, false] (by kernel_rfl) rfl rfl (x7) (fun hHeld => ?_)
        refine pure_ (i := 0) (N := some 80) (v := ?_) (a' := ?_) #[true, false, false, false, false, false, false, false] rfl rfl (by kernel_rfl) (fun _ _ _ h => h) (Or.inl ⟨by rfl, ?_⟩) ?_ ?_
        rotate_left
        · intro w'
          go_simp
          with_reducible rfl
        rotate_left
        · simp only [Act.put, List.setIfInBounds_toArray, List.set_cons_zero, List.set_cons_succ, i64_w, i32_w]
          rfl
        refine pure_ (i := 1) (N := some 81) (v := ?_) (a' := ?_) #[true, true, false, false, false, false, false, false] rfl rfl (by kernel_rfl) (fun _ _ _ h => h) (Or.inl ⟨by rfl, ?_⟩) ?_ ?_
        rotate_left
        · intro w'
          go_simp
          with_reducible rfl
        rotate_left
        · simp only [Act.put, List.setIfInBounds_toArray, List.set_cons_zero, List.set_cons_succ, i64_w, i32_w]
          rfl
        refine pure_ (i := 3) (N := some 83) (v := ?_) (a' := ?_) #[true, true, false, true, false, false, false, false] rfl rfl (by kernel_rfl) (fun _ _ _ h => h) (Or.inl ⟨by rfl, ?_⟩) ?_ ?_
        rotate_left
        · intro w'
          go_simp
          with_reducible rfl
        rotate_left
        · simp only [Act.put, List.setIfInBounds_toArray, List.set_cons_zero, List.set_cons_succ, i64_w, i32_w]
          rfl
        refine take_ (i := 4) (N := some 84) (v := ?_) (a' := ?_) #[true, true, false, true, true, false, false, false] rfl rfl (by kernel_rfl) (fun _ _ _ h => h) (Or.inl ⟨by rfl, ?_⟩) hHeld ?_ ?_
        rotate_left
        · intro w' s0
          go_simp
          with_reducible rfl
        rotate_left
        · simp only [Act.put, List.setIfInBounds_toArray, List.set_cons_zero, List.set_cons_succ, i64_w, i32_w]
          rfl
        refine one_ (i := 2) (N := some 82) #[true, true, true, true, true, false, false, false] rfl rfl (by kernel_rfl) (by decide) (fun K hK => ?_)
        refine goes_ Try.func90 (by kernel_rfl) rfl #[.slice A52 b52.length (c - 52), .int .i64 4] (by rfl) rfl rfl (by simp only [List.map_toArray, List.map_cons, List.map_nil]; rfl) ?_
        with_reducible refine ((H52.out w7.drew HB7d.out)).mono ?_
        rintro e w3 ⟨rfl, ⟨m7, rfl⟩⟩
        refine ⟨_, rfl, ?_⟩
        refine hK.out _ _ (x7) (fun hHeld => ?_)
        clear hK K
        refine norm_ (a' := ?_) ?_ ?_
        rotate_left
        · show Act.put _ (some 82) _ = _
          simp only [Act.put, List.setIfInBounds_toArray, List.set_cons_zero, List.set_cons_succ, i64_w, i32_w]
          rfl
        refine one_ (i := 5) (N := some 85) #[true, true, true, true, true, true, false, false] rfl rfl (by kernel_rfl) (by decide) (fun K hK => ?_)
        refine goes_ Try.func80 (by kernel_rfl) rfl #[.slice A64 b64.length (c - 64)] (by rfl) rfl rfl (by simp only [List.map_toArray, List.map_cons, List.map_nil]; rfl) ?_
        with_reducible refine ((HS0.out (w7.drew.drewN m7) (pw_below_drewN HB7d.out m7))).mono ?_
        rintro e w4 ⟨rfl, ⟨m8, rfl⟩⟩
        refine ⟨_, rfl, ?_⟩
        refine hK.out _ _ (x7) (fun hHeld => ?_)
        clear hK K
        refine norm_ (a' := ?_) ?_ ?_
        rotate_left
        · show Act.put _ (some 85) _ = _
          simp only [Act.put, List.setIfInBounds_toArray, List.set_cons_zero, List.set_cons_succ, i64_w, i32_w]
          rfl
        refine pure_ (i := 6) (N := some 86) (v := ?_) (a' := ?_) #[true, true, true, true, true, true, true, false] rfl rfl (by kernel_rfl) (fun _ _ _ h => h) (Or.inl ⟨by rfl, ?_⟩) ?_ ?_
        rotate_left
        · intro w'
          go_simp
          with_reducible rfl
        rotate_left
        · simp only [Act.put, List.setIfInBounds_toArray, List.set_cons_zero, List.set_cons_succ, i64_w, i32_w]
          rfl
        refine pure_ (i := 7) (N := some 87) (v := ?_) (a' := ?_) #[true, true, true, true, true, true, true, true] rfl rfl (by kernel_rfl) (fun _ _ _ h => h) (Or.inl ⟨by rfl, ?_⟩) ?_ ?_
        rotate_left
        · intro w'
          go_simp
          with_reducible rfl
        rotate_left
        · simp only [Act.put, List.setIfInBounds_toArray, List.set_cons_zero, List.set_cons_succ, i64_w, i32_w]
          rfl
        refine done_ (by kernel_rfl) ?_
        go_upto_region 10 with fail
        have HB9 := Aside0.mk (pw_below_drewN (pw_below_drewN HB7d.out m7) m8)
        have HR9 := Aside0.mk (show ((w7.drew.drewN m7).drewN m8).heap[w.heap.size]? = some (.cells #[.int .u64 0, .int .i64 0, .int .i64 0, .bool false, .int .i64 0, .int .i64 0, .int .i64 0, .slice none 0 0] 88 (0, 0)) from HR7.out)
        have HG9 := Aside0.mk (show ((w7.drew.drewN m7).drewN m8).heap[gq]? = some (.cells #[.int .u64 u8, .int .i64 u16, .int .i64 u20, .bool v3, .int .i64 v4, .int .i64 v5, .int .i64 v6, .slice A64 b64.length (c - 64)] 88 (0, 0)) from HG7.out)
        (try simp only [World.drewN_drewN])
        generalize h9 : ((w7.drew.drewN m7).drewN m8) = w9 at HB9 HR9 HG9
        (try simp only [World.drewN_drewN] at h9)
        rw [h9]
        clear h9 x7
        clear hSb hcm2
        have x0 : w9.cell? ⟨w.heap.size, 0, none⟩ = some (.int .u64 0) := cell_of_row w9 _ 0 _ 88 (0, 0) HR9.out
        have z0 := blk_frozen HR9.out 0
        have x1 : w9.cell? ⟨w.heap.size, 1, none⟩ = some (.int .i64 0) := cell_of_row w9 _ 1 _ 88 (0, 0) HR9.out
        have z1 := blk_frozen HR9.out 1
        have x2 : w9.cell? ⟨w.heap.size, 2, none⟩ = some (.int .i64 0) := cell_of_row w9 _ 2 _ 88 (0, 0) HR9.out
        have z2 := blk_frozen HR9.out 2
        have x3 : w9.cell? ⟨w.heap.size, 3, none⟩ = some (.bool false) := cell_of_row w9 _ 3 _ 88 (0, 0) HR9.out
        have z3 := blk_frozen HR9.out 3
        have x4 : w9.cell? ⟨w.heap.size, 4, none⟩ = some (.int .i64 0) := cell_of_row w9 _ 4 _ 88 (0, 0) HR9.out
        have z4 := blk_frozen HR9.out 4
        have x5 : w9.cell? ⟨w.heap.size, 5, none⟩ = some (.int .i64 0) := cell_of_row w9 _ 5 _ 88 (0, 0) HR9.out
        have z5 := blk_frozen HR9.out 5
        have x6 : w9.cell? ⟨w.heap.size, 6, none⟩ = some (.int .i64 0) := cell_of_row w9 _ 6 _ 88 (0, 0) HR9.out
        have z6 := blk_frozen HR9.out 6
        have x7 : w9.cell? ⟨w.heap.size, 7, none⟩ = some (.slice none 0 0) := cell_of_row w9 _ 7 _ 88 (0, 0) HR9.out
        have z7 := blk_frozen HR9.out 7
        go_wp2_with fail
        have g8 := set8 HR9.out (.int .u64 0) (.int .i64 0) (.int .i64 0) (.bool false) (.int .i64 0) (.int .i64 0) (.int .i64 0) (.slice none 0 0)
        clear x0 x1 x2 x3 x4 x5 x6 x7 z0 z1 z2 z3 z4 z5 z6 z7
        have HBx := Aside0.mk (((Fr.of_below HB9.out (fun i => i ≠ w.heap.size)).then g8.2).below (B := w.heap.size) (fun i hi => ⟨hi, by omega⟩))
        have HGx := Aside0.mk g8.1
        clear g8
        generalize ((((((((w9.setCell ⟨w.heap.size, 0, none⟩ (.int .u64 0)).setCell ⟨w.heap.size, 1, none⟩ (.int .i64 0)).setCell ⟨w.heap.size, 2, none⟩ (.int .i64 0)).setCell ⟨w.heap.size, 3, none⟩ (.bool false)).setCell ⟨w.heap.size, 4, none⟩ (.int .i64 0)).setCell ⟨w.heap.size, 5, none⟩ (.int .i64 0)).setCell ⟨w.heap.size, 6, none⟩ (.int .i64 0)).setCell ⟨w.heap.size, 7, none⟩ (.slice none 0 0)) = wx at HBx HGx ⊢
        have x0 : wx.cell? ⟨w.heap.size, 0, none⟩ = some (.int .u64 0) := cell_of_row wx _ 0 _ 88 (0, 0) HGx.out
        have x1 : wx.cell? ⟨w.heap.size, 1, none⟩ = some (.int .i64 0) := cell_of_row wx _ 1 _ 88 (0, 0) HGx.out
        have x2 : wx.cell? ⟨w.heap.size, 2, none⟩ = some (.int .i64 0) := cell_of_row wx _ 2 _ 88 (0, 0) HGx.out
        have x3 : wx.cell? ⟨w.heap.size, 3, none⟩ = some (.bool false) := cell_of_row wx _ 3 _ 88 (0, 0) HGx.out
        have x4 : wx.cell? ⟨w.heap.size, 4, none⟩ = some (.int .i64 0) := cell_of_row wx _ 4 _ 88 (0, 0) HGx.out
        have x5 : wx.cell? ⟨w.heap.size, 5, none⟩ = some (.int .i64 0) := cell_of_row wx _ 5 _ 88 (0, 0) HGx.out
        have x6 : wx.cell? ⟨w.heap.size, 6, none⟩ = some (.int .i64 0) := cell_of_row wx _ 6 _ 88 (0, 0) HGx.out
        have x7 : wx.cell? ⟨w.heap.size, 7, none⟩ = some (.slice none 0 0) := cell_of_row wx _ 7 _ 88 (0, 0) HGx.out
        (try simp only [Exit.inBlock, Exit.then])
        refine bodyPost_ret (by simp [results, Try.results67, go_sem, x0, x1, x2, x3, x4, x5, x6, x7]; try rfl) rfl ?_
        exact HQ.out _ _ ⟨fun h => h.elim (fun h => absurd h (by decide)) (fun h => absurd HN.out h), fun _ _ _ => rfl, fun _ _ h => absurd h HX.out, HBx.out⟩
      · have hSb : (u52 != s64) = false := by simp [hS]
        have HX := Aside0.mk hS
        clear hS
        refine start_ (n := 8) (S := fun w' => w'.cell? ⟨gq, 7, none⟩ = some (.slice A64 b64.length (c - 64))) (ds := []) #[false, false, false, false, false, false, false, false] (by kernel_rfl) rfl rfl (x7) (fun hHeld => ?_)
        refine pure_ (i := 0) (N := some 80) (v := ?_) (a' := ?_) #[true, false, false, false, false, false, false, false] rfl rfl (by kernel_rfl) (fun _ _ _ h => h) (Or.inl ⟨by rfl, ?_⟩) ?_ ?_
        rotate_left
        · intro w'
          go_simp
          with_reducible rfl
        rotate_left
        · simp only [Act.put, List.setIfInBounds_toArray, List.set_cons_zero, List.set_cons_succ, i64_w, i32_w]
          rfl
        refine pure_ (i := 1) (N := some 81) (v := ?_) (a' := ?_) #[true, true, false, false, false, false, false, false] rfl rfl (by kernel_rfl) (fun _ _ _ h => h) (Or.inl ⟨by rfl, ?_⟩) ?_ ?_
        rotate_left
        · intro w'
          go_simp
          with_reducible rfl
        rotate_left
        · simp only [Act.put, List.setIfInBounds_toArray, List.set_cons_zero, List.set_cons_succ, i64_w, i32_w]
          rfl
        refine pure_ (i := 3) (N := some 83) (v := ?_) (a' := ?_) #[true, true, false, true, false, false, false, false] rfl rfl (by kernel_rfl) (fun _ _ _ h => h) (Or.inl ⟨by rfl, ?_⟩) ?_ ?_
        rotate_left
        · intro w'
          go_simp
          with_reducible rfl
        rotate_left
        · simp only [Act.put, List.setIfInBounds_toArray, List.set_cons_zero, List.set_cons_succ, i64_w, i32_w]
          rfl
        refine take_ (i := 4) (N := some 84) (v := ?_) (a' := ?_) #[true, true, false, true, true, false, false, false] rfl rfl (by kernel_rfl) (fun _ _ _ h => h) (Or.inl ⟨by rfl, ?_⟩) hHeld ?_ ?_
        rotate_left
        · intro w' s0
          go_simp
          with_reducible rfl
        rotate_left
        · simp only [Act.put, List.setIfInBounds_toArray, List.set_cons_zero, List.set_cons_succ, i64_w, i32_w]
          rfl
        refine one_ (i := 2) (N := some 82) #[true, true, true, true, true, false, false, false] rfl rfl (by kernel_rfl) (by decide) (fun K hK => ?_)
        refine goes_ Try.func90 (by kernel_rfl) rfl #[.slice A52 b52.length (c - 52), .int .i64 4] (by rfl) rfl rfl (by simp only [List.map_toArray, List.map_cons, List.map_nil]; rfl) ?_
        with_reducible refine ((H52.out w7.drew HB7d.out)).mono ?_
        rintro e w3 ⟨rfl, ⟨m7, rfl⟩⟩
        refine ⟨_, rfl, ?_⟩
        refine hK.out _ _ (x7) (fun hHeld => ?_)
        clear hK K
        refine norm_ (a' := ?_) ?_ ?_
        rotate_left
        · show Act.put _ (some 82) _ = _
          simp only [Act.put, List.setIfInBounds_toArray, List.set_cons_zero, List.set_cons_succ, i64_w, i32_w]
          rfl
        refine one_ (i := 5) (N := some 85) #[true, true, true, true, true, true, false, false] rfl rfl (by kernel_rfl) (by decide) (fun K hK => ?_)
        refine goes_ Try.func80 (by kernel_rfl) rfl #[.slice A64 b64.length (c - 64)] (by rfl) rfl rfl (by simp only [List.map_toArray, List.map_cons, List.map_nil]; rfl) ?_
        with_reducible refine ((HS0.out (w7.drew.drewN m7) (pw_below_drewN HB7d.out m7))).mono ?_
        rintro e w4 ⟨rfl, ⟨m8, rfl⟩⟩
        refine ⟨_, rfl, ?_⟩
        refine hK.out _ _ (x7) (fun hHeld => ?_)
        clear hK K
        refine norm_ (a' := ?_) ?_ ?_
        rotate_left
        · show Act.put _ (some 85) _ = _
          simp only [Act.put, List.setIfInBounds_toArray, List.set_cons_zero, List.set_cons_succ, i64_w, i32_w]
          rfl
        refine pure_ (i := 6) (N := some 86) (v := ?_) (a' := ?_) #[true, true, true, true, true, true, true, false] rfl rfl (by kernel_rfl) (fun _ _ _ h => h) (Or.inl ⟨by rfl, ?_⟩) ?_ ?_
        rotate_left
        · intro w'
          go_simp
          with_reducible rfl
        rotate_left
        · simp only [Act.put, List.setIfInBounds_toArray, List.set_cons_zero, List.set_cons_succ, i64_w, i32_w]
          rfl
        refine pure_ (i := 7) (N := some 87) (v := ?_) (a' := ?_) #[true, true, true, true, true, true, true, true] rfl rfl (by kernel_rfl) (fun _ _ _ h => h) (Or.inl ⟨by rfl, ?_⟩) ?_ ?_
        rotate_left
        · intro w'
          go_simp
          with_reducible rfl
        rotate_left
        · simp only [Act.put, List.setIfInBounds_toArray, List.set_cons_zero, List.set_cons_succ, i64_w, i32_w]
          rfl
        refine done_ (by kernel_rfl) ?_
        go_upto_region 11 with fail
        have HB9 := Aside0.mk (pw_below_drewN (pw_below_drewN HB7d.out m7) m8)
        have HR9 := Aside0.mk (show ((w7.drew.drewN m7).drewN m8).heap[w.heap.size]? = some (.cells #[.int .u64 0, .int .i64 0, .int .i64 0, .bool false, .int .i64 0, .int .i64 0, .int .i64 0, .slice none 0 0] 88 (0, 0)) from HR7.out)
        have HG9 := Aside0.mk (show ((w7.drew.drewN m7).drewN m8).heap[gq]? = some (.cells #[.int .u64 u8, .int .i64 u16, .int .i64 u20, .bool v3, .int .i64 v4, .int .i64 v5, .int .i64 v6, .slice A64 b64.length (c - 64)] 88 (0, 0)) from HG7.out)
        (try simp only [World.drewN_drewN])
        generalize h9 : ((w7.drew.drewN m7).drewN m8) = w9 at HB9 HR9 HG9
        (try simp only [World.drewN_drewN] at h9)
        rw [h9]
        clear h9 x7
        clear hSb hcm2
        have y0 : w9.cell? ⟨gq, 0, none⟩ = some (.int .u64 u8) := cell_of_row w9 _ 0 _ 88 (0, 0) HG9.out
        have y1 : w9.cell? ⟨gq, 1, none⟩ = some (.int .i64 u16) := cell_of_row w9 _ 1 _ 88 (0, 0) HG9.out
        have y2 : w9.cell? ⟨gq, 2, none⟩ = some (.int .i64 u20) := cell_of_row w9 _ 2 _ 88 (0, 0) HG9.out
        have y3 : w9.cell? ⟨gq, 3, none⟩ = some (.bool v3) := cell_of_row w9 _ 3 _ 88 (0, 0) HG9.out
        have y4 : w9.cell? ⟨gq, 4, none⟩ = some (.int .i64 v4) := cell_of_row w9 _ 4 _ 88 (0, 0) HG9.out
        have y5 : w9.cell? ⟨gq, 5, none⟩ = some (.int .i64 v5) := cell_of_row w9 _ 5 _ 88 (0, 0) HG9.out
        have y6 : w9.cell? ⟨gq, 6, none⟩ = some (.int .i64 v6) := cell_of_row w9 _ 6 _ 88 (0, 0) HG9.out
        have y7 : w9.cell? ⟨gq, 7, none⟩ = some (.slice A64 b64.length (c - 64)) := cell_of_row w9 _ 7 _ 88 (0, 0) HG9.out
        have x0 : w9.cell? ⟨w.heap.size, 0, none⟩ = some (.int .u64 0) := cell_of_row w9 _ 0 _ 88 (0, 0) HR9.out
        have z0 := blk_frozen HR9.out 0
        have x1 : w9.cell? ⟨w.heap.size, 1, none⟩ = some (.int .i64 0) := cell_of_row w9 _ 1 _ 88 (0, 0) HR9.out
        have z1 := blk_frozen HR9.out 1
        have x2 : w9.cell? ⟨w.heap.size, 2, none⟩ = some (.int .i64 0) := cell_of_row w9 _ 2 _ 88 (0, 0) HR9.out
        have z2 := blk_frozen HR9.out 2
        have x3 : w9.cell? ⟨w.heap.size, 3, none⟩ = some (.bool false) := cell_of_row w9 _ 3 _ 88 (0, 0) HR9.out
        have z3 := blk_frozen HR9.out 3
        have x4 : w9.cell? ⟨w.heap.size, 4, none⟩ = some (.int .i64 0) := cell_of_row w9 _ 4 _ 88 (0, 0) HR9.out
        have z4 := blk_frozen HR9.out 4
        have x5 : w9.cell? ⟨w.heap.size, 5, none⟩ = some (.int .i64 0) := cell_of_row w9 _ 5 _ 88 (0, 0) HR9.out
        have z5 := blk_frozen HR9.out 5
        have x6 : w9.cell? ⟨w.heap.size, 6, none⟩ = some (.int .i64 0) := cell_of_row w9 _ 6 _ 88 (0, 0) HR9.out
        have z6 := blk_frozen HR9.out 6
        have x7 : w9.cell? ⟨w.heap.size, 7, none⟩ = some (.slice none 0 0) := cell_of_row w9 _ 7 _ 88 (0, 0) HR9.out
        have z7 := blk_frozen HR9.out 7
        go_wp2_with fail
        have g8 := set8 HR9.out (.int .u64 u8) (.int .i64 u16) (.int .i64 u20) (.bool v3) (.int .i64 v4) (.int .i64 v5) (.int .i64 v6) (.slice A64 b64.length (c - 64))
        clear x0 x1 x2 x3 x4 x5 x6 x7 z0 z1 z2 z3 z4 z5 z6 z7
        have HBx := Aside0.mk (((Fr.of_below HB9.out (fun i => i ≠ w.heap.size)).then g8.2).below (B := w.heap.size) (fun i hi => ⟨hi, by omega⟩))
        have HGx := Aside0.mk g8.1
        clear g8
        generalize ((((((((w9.setCell ⟨w.heap.size, 0, none⟩ (.int .u64 u8)).setCell ⟨w.heap.size, 1, none⟩ (.int .i64 u16)).setCell ⟨w.heap.size, 2, none⟩ (.int .i64 u20)).setCell ⟨w.heap.size, 3, none⟩ (.bool v3)).setCell ⟨w.heap.size, 4, none⟩ (.int .i64 v4)).setCell ⟨w.heap.size, 5, none⟩ (.int .i64 v5)).setCell ⟨w.heap.size, 6, none⟩ (.int .i64 v6)).setCell ⟨w.heap.size, 7, none⟩ (.slice A64 b64.length (c - 64))) = wx at HBx HGx ⊢
        have x0 : wx.cell? ⟨w.heap.size, 0, none⟩ = some (.int .u64 u8) := cell_of_row wx _ 0 _ 88 (0, 0) HGx.out
        have x1 : wx.cell? ⟨w.heap.size, 1, none⟩ = some (.int .i64 u16) := cell_of_row wx _ 1 _ 88 (0, 0) HGx.out
        have x2 : wx.cell? ⟨w.heap.size, 2, none⟩ = some (.int .i64 u20) := cell_of_row wx _ 2 _ 88 (0, 0) HGx.out
        have x3 : wx.cell? ⟨w.heap.size, 3, none⟩ = some (.bool v3) := cell_of_row wx _ 3 _ 88 (0, 0) HGx.out
        have x4 : wx.cell? ⟨w.heap.size, 4, none⟩ = some (.int .i64 v4) := cell_of_row wx _ 4 _ 88 (0, 0) HGx.out
        have x5 : wx.cell? ⟨w.heap.size, 5, none⟩ = some (.int .i64 v5) := cell_of_row wx _ 5 _ 88 (0, 0) HGx.out
        have x6 : wx.cell? ⟨w.heap.size, 6, none⟩ = some (.int .i64 v6) := cell_of_row wx _ 6 _ 88 (0, 0) HGx.out
        have x7 : wx.cell? ⟨w.heap.size, 7, none⟩ = some (.slice A64 b64.length (c - 64)) := cell_of_row wx _ 7 _ 88 (0, 0) HGx.out
        (try simp only [Exit.inBlock, Exit.then])
        refine bodyPost_ret (by simp [results, Try.results67, go_sem, x0, x1, x2, x3, x4, x5, x6, x7]; try rfl) rfl ?_
        exact HQ.out _ _ ⟨fun h => h.elim (fun h => absurd h (by decide)) (fun h => absurd HN.out h), fun _ _ h => absurd HX.out h, fun _ _ _ => ⟨A64, rfl, HR64.out⟩, HBx.out⟩
end Go.Proofs.Ytnkcbkfccbfjpaa.XxhW
