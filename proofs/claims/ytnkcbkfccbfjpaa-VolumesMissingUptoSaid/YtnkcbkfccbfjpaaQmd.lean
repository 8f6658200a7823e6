/- Contracts and plain facts (texts of mine, and printed ones, made one; what nothing leads to is left out). -/
import Derived.Lib.Bytes
import Derived.Test.YtnkcbkfccbfjpaaQmc
/- get of volumes (f67): the ways behind the head. -/
namespace Go.Proofs.Ytnkcbkfccbfjpaa.XxhW
open Go.RowKit Go.Proofs.Ytnkcbkfccbfjpaa.QVolumesCuts Go.Proofs.YtnkcbkfccbfjpaaW.PrintWords Go.Proofs.YtnkcbkfccbfjpaaW.PrintLast Go.Proofs.YtnkcbkfccbfjpaaW.PrintMore
set_option linter.unusedVariables false
set_option linter.unusedSimpArgs false
set_option maxHeartbeats 16000000 in
set_option maxRecDepth 100000 in
theorem get_rest (A : Option Addr) (c : Nat) (b : List Int) (w : World) (hr : ReadsInt w .u8 A b.length b) (hc : b.length ≤ c) (h64 : 64 ≤ b.length) (hl : b.length ≤ 100000000) (hb : ∀ q, 0 ≤ b.getD q 0 ∧ b.getD q 0 < 256) (hm : ((strOfNums (b.take 8)).toList == [83, 65, 84, 67, 72, 86, 79, 76]) = true)
    (hh : numP (b.drop 60) 4 = crc (b.take 60)) (h56 : numP (b.drop 56) 4 = 0) (hfl : numP (b.drop 24) 4 ≤ 1)
    (v0 v1 v2 : Int) (v3 : Bool) (v4 v5 v6 : Int) (hv0 : numP (b.drop 8) 8 = v0) (hv1 : numP (b.drop 16) 4 = v1) (hv2 : numP (b.drop 20) 4 = v2) (hv3 : (numP (b.drop 24) 4 == 1) = v3) (hv4 : wrap64 (numP (b.drop 28) 8) = v4) (hv5 : wrap64 (numP (b.drop 36) 8) = v5) (hv6 : wrap64 (numP (b.drop 44) 8) = v6)
    (kc : Nat) (cn : Bool) (hcan : volumes_volume_can.f kc v0 v1 v2 v3 v4 v5 v6 (b.drop 64) = some cn) :
    Calls Try.prog 67 #[.slice A b.length c] w fun e w' => ((cn = false ∨ v6 ≠ ((b.drop 64).length : Int)) → e = .returned (.tuple #[.agg #[.int .u64 0, .int .i64 0, .int .i64 0, .bool false, .int .i64 0, .int .i64 0, .int .i64 0, .slice none 0 0], .int .i64 270])) ∧
      (cn = true → v6 = ((b.drop 64).length : Int) → numP (b.drop 52) 4 ≠ crc (b.drop 64) → e = .returned (.tuple #[.agg #[.int .u64 0, .int .i64 0, .int .i64 0, .bool false, .int .i64 0, .int .i64 0, .int .i64 0, .slice none 0 0], .int .i64 131])) ∧
      (cn = true → v6 = ((b.drop 64).length : Int) → numP (b.drop 52) 4 = crc (b.drop 64) → ∃ A' : Option Addr, e = .returned (.tuple #[.agg #[.int .u64 v0, .int .i64 v1, .int .i64 v2, .bool v3, .int .i64 v4, .int .i64 v5, .int .i64 v6, .slice A' (b.drop 64).length (c - 64)], .int .i64 0]) ∧ ∀ W : World, ReadsInt W .u8 A b.length b → ReadsInt W .u8 A' (b.drop 64).length (b.drop 64)) ∧ Below w.heap.size w w' := by
  obtain ⟨i0, hi, _, hsz, _⟩ := info_parts info5
  have hbd : ∀ m q, 0 ≤ (b.drop m).getD q 0 ∧ (b.drop m).getD q 0 < 256 := fun m q => by
    rw [List.getD_eq_getElem?_getD, List.getElem?_drop, ← List.getD_eq_getElem?_getD]
    exact hb _
  have HR := Aside0.mk hr
  obtain ⟨A8, k8, r8, l8⟩ := print_drop_of (P := Try.prog) (Value.int .u8) 0 22 5 .i64 Try.underlying22 hi hsz A c b 8 (by decide) (by omega) hc
  rw [show ((8 : Int)).toNat = 8 from rfl] at k8 r8 l8
  have n8 : volumes_number.f 9 (b.drop 8) 8 = some (numP (b.drop 8) 8) := nm_f 9 (b.drop 8) 8 (by decide) (by rw [List.length_drop]; omega) (hbd 8) (by decide)
  obtain ⟨b8, e8⟩ : ∃ x, x = b.drop 8 := ⟨_, rfl⟩
  rw [← e8] at k8 r8 l8 n8 hv0
  obtain ⟨u8, eu8⟩ : ∃ x, x = numP b8 8 := ⟨_, rfl⟩
  rw [← eu8] at n8 hv0
  have H8 := Aside0.mk (fun (W : World) (h : Below w.heap.size w W) => volumes_number.calls 9 A8 (c - 8) b8 8 _ W (Kd.C_of_reads (enc := Value.int .u8) (d := (0 : Int)) (h1 := fun _ => rfl) (r8 W (HR.out.below h))) l8 n8)
  obtain ⟨A16, k16, r16, l16⟩ := print_drop_of (P := Try.prog) (Value.int .u8) 0 22 5 .i64 Try.underlying22 hi hsz A c b 16 (by decide) (by omega) hc
  rw [show ((16 : Int)).toNat = 16 from rfl] at k16 r16 l16
  have n16 : volumes_number.f 9 (b.drop 16) 4 = some (numP (b.drop 16) 4) := nm_f 9 (b.drop 16) 4 (by decide) (by rw [List.length_drop]; omega) (hbd 16) (by decide)
  obtain ⟨b16, e16⟩ : ∃ x, x = b.drop 16 := ⟨_, rfl⟩
  rw [← e16] at k16 r16 l16 n16 hv1
  obtain ⟨u16, eu16⟩ : ∃ x, x = numP b16 4 := ⟨_, rfl⟩
  rw [← eu16] at n16 hv1
  have H16 := Aside0.mk (fun (W : World) (h : Below w.heap.size w W) => volumes_number.calls 9 A16 (c - 16) b16 4 _ W (Kd.C_of_reads (enc := Value.int .u8) (d := (0 : Int)) (h1 := fun _ => rfl) (r16 W (HR.out.below h))) l16 n16)
  obtain ⟨A20, k20, r20, l20⟩ := print_drop_of (P := Try.prog) (Value.int .u8) 0 22 5 .i64 Try.underlying22 hi hsz A c b 20 (by decide) (by omega) hc
  rw [show ((20 : Int)).toNat = 20 from rfl] at k20 r20 l20
  have n20 : volumes_number.f 9 (b.drop 20) 4 = some (numP (b.drop 20) 4) := nm_f 9 (b.drop 20) 4 (by decide) (by rw [List.length_drop]; omega) (hbd 20) (by decide)
  obtain ⟨b20, e20⟩ : ∃ x, x = b.drop 20 := ⟨_, rfl⟩
  rw [← e20] at k20 r20 l20 n20 hv2
  obtain ⟨u20, eu20⟩ : ∃ x, x = numP b20 4 := ⟨_, rfl⟩
  rw [← eu20] at n20 hv2
  have H20 := Aside0.mk (fun (W : World) (h : Below w.heap.size w W) => volumes_number.calls 9 A20 (c - 20) b20 4 _ W (Kd.C_of_reads (enc := Value.int .u8) (d := (0 : Int)) (h1 := fun _ => rfl) (r20 W (HR.out.below h))) l20 n20)
  obtain ⟨A24, k24, r24, l24⟩ := print_drop_of (P := Try.prog) (Value.int .u8) 0 22 5 .i64 Try.underlying22 hi hsz A c b 24 (by decide) (by omega) hc
  rw [show ((24 : Int)).toNat = 24 from rfl] at k24 r24 l24
  have n24 : volumes_number.f 9 (b.drop 24) 4 = some (numP (b.drop 24) 4) := nm_f 9 (b.drop 24) 4 (by decide) (by rw [List.length_drop]; omega) (hbd 24) (by decide)
  obtain ⟨b24, e24⟩ : ∃ x, x = b.drop 24 := ⟨_, rfl⟩
  rw [← e24] at k24 r24 l24 n24 hv3
  obtain ⟨u24, eu24⟩ : ∃ x, x = numP b24 4 := ⟨_, rfl⟩
  rw [← eu24] at n24 hv3
  have H24 := Aside0.mk (fun (W : World) (h : Below w.heap.size w W) => volumes_number.calls 9 A24 (c - 24) b24 4 _ W (Kd.C_of_reads (enc := Value.int .u8) (d := (0 : Int)) (h1 := fun _ => rfl) (r24 W (HR.out.below h))) l24 n24)
  obtain ⟨A28, k28, r28, l28⟩ := print_drop_of (P := Try.prog) (Value.int .u8) 0 22 5 .i64 Try.underlying22 hi hsz A c b 28 (by decide) (by omega) hc
  rw [show ((28 : Int)).toNat = 28 from rfl] at k28 r28 l28
  have n28 : volumes_number.f 9 (b.drop 28) 8 = some (numP (b.drop 28) 8) := nm_f 9 (b.drop 28) 8 (by decide) (by rw [List.length_drop]; omega) (hbd 28) (by decide)
  obtain ⟨b28, e28⟩ : ∃ x, x = b.drop 28 := ⟨_, rfl⟩
  rw [← e28] at k28 r28 l28 n28 hv4
  obtain ⟨u28, eu28⟩ : ∃ x, x = numP b28 8 := ⟨_, rfl⟩
  rw [← eu28] at n28 hv4
  have H28 := Aside0.mk (fun (W : World) (h : Below w.heap.size w W) => volumes_number.calls 9 A28 (c - 28) b28 8 _ W (Kd.C_of_reads (enc := Value.int .u8) (d := (0 : Int)) (h1 := fun _ => rfl) (r28 W (HR.out.below h))) l28 n28)
  obtain ⟨A36, k36, r36, l36⟩ := print_drop_of (P := Try.prog) (Value.int .u8) 0 22 5 .i64 Try.underlying22 hi hsz A c b 36 (by decide) (by omega) hc
  rw [show ((36 : Int)).toNat = 36 from rfl] at k36 r36 l36
  have n36 : volumes_number.f 9 (b.drop 36) 8 = some (numP (b.drop 36) 8) := nm_f 9 (b.drop 36) 8 (by decide) (by rw [List.length_drop]; omega) (hbd 36) (by decide)
  obtain ⟨b36, e36⟩ : ∃ x, x = b.drop 36 := ⟨_, rfl⟩
  rw [← e36] at k36 r36 l36 n36 hv5
  obtain ⟨u36, eu36⟩ : ∃ x, x = numP b36 8 := ⟨_, rfl⟩
  rw [← eu36] at n36 hv5
  have H36 := Aside0.mk (fun (W : World) (h : Below w.heap.size w W) => volumes_number.calls 9 A36 (c - 36) b36 8 _ W (Kd.C_of_reads (enc := Value.int .u8) (d := (0 : Int)) (h1 := fun _ => rfl) (r36 W (HR.out.below h))) l36 n36)
  obtain ⟨A44, k44, r44, l44⟩ := print_drop_of (P := Try.prog) (Value.int .u8) 0 22 5 .i64 Try.underlying22 hi hsz A c b 44 (by decide) (by omega) hc
  rw [show ((44 : Int)).toNat = 44 from rfl] at k44 r44 l44
  have n44 : volumes_number.f 9 (b.drop 44) 8 = some (numP (b.drop 44) 8) := nm_f 9 (b.drop 44) 8 (by decide) (by rw [List.length_drop]; omega) (hbd 44) (by decide)
  obtain ⟨b44, e44⟩ : ∃ x, x = b.drop 44 := ⟨_, rfl⟩
  rw [← e44] at k44 r44 l44 n44 hv6
  obtain ⟨u44, eu44⟩ : ∃ x, x = numP b44 8 := ⟨_, rfl⟩
  rw [← eu44] at n44 hv6
  have H44 := Aside0.mk (fun (W : World) (h : Below w.heap.size w W) => volumes_number.calls 9 A44 (c - 44) b44 8 _ W (Kd.C_of_reads (enc := Value.int .u8) (d := (0 : Int)) (h1 := fun _ => rfl) (r44 W (HR.out.below h))) l44 n44)
  obtain ⟨A52, k52, r52, l52⟩ := print_drop_of (P := Try.prog) (Value.int .u8) 0 22 5 .i64 Try.underlying22 hi hsz A c b 52 (by decide) (by omega) hc
  rw [show ((52 : Int)).toNat = 52 from rfl] at k52 r52 l52
  have n52 : volumes_number.f 9 (b.drop 52) 4 = some (numP (b.drop 52) 4) := nm_f 9 (b.drop 52) 4 (by decide) (by rw [List.length_drop]; omega) (hbd 52) (by decide)
  obtain ⟨b52, e52⟩ : ∃ x, x = b.drop 52 := ⟨_, rfl⟩
  rw [← e52] at k52 r52 l52 n52
  obtain ⟨u52, eu52⟩ : ∃ x, x = numP b52 4 := ⟨_, rfl⟩
  rw [← eu52] at n52
  have H52 := Aside0.mk (fun (W : World) (h : Below w.heap.size w W) => volumes_number.calls 9 A52 (c - 52) b52 4 _ W (Kd.C_of_reads (enc := Value.int .u8) (d := (0 : Int)) (h1 := fun _ => rfl) (r52 W (HR.out.below h))) l52 n52)
  obtain ⟨A56, k56, r56, l56⟩ := print_drop_of (P := Try.prog) (Value.int .u8) 0 22 5 .i64 Try.underlying22 hi hsz A c b 56 (by decide) (by omega) hc
  rw [show ((56 : Int)).toNat = 56 from rfl] at k56 r56 l56
  have n56 : volumes_number.f 9 (b.drop 56) 4 = some (numP (b.drop 56) 4) := nm_f 9 (b.drop 56) 4 (by decide) (by rw [List.length_drop]; omega) (hbd 56) (by decide)
  obtain ⟨b56, e56⟩ : ∃ x, x = b.drop 56 := ⟨_, rfl⟩
  rw [← e56] at k56 r56 l56 n56
  obtain ⟨u56, eu56⟩ : ∃ x, x = numP b56 4 := ⟨_, rfl⟩
  rw [← eu56] at n56
  have H56 := Aside0.mk (fun (W : World) (h : Below w.heap.size w W) => volumes_number.calls 9 A56 (c - 56) b56 4 _ W (Kd.C_of_reads (enc := Value.int .u8) (d := (0 : Int)) (h1 := fun _ => rfl) (r56 W (HR.out.below h))) l56 n56)
  obtain ⟨A60, k60, r60, l60⟩ := print_drop_of (P := Try.prog) (Value.int .u8) 0 22 5 .i64 Try.underlying22 hi hsz A c b 60 (by decide) (by omega) hc
  rw [show ((60 : Int)).toNat = 60 from rfl] at k60 r60 l60
  have n60 : volumes_number.f 9 (b.drop 60) 4 = some (numP (b.drop 60) 4) := nm_f 9 (b.drop 60) 4 (by decide) (by rw [List.length_drop]; omega) (hbd 60) (by decide)
  obtain ⟨b60, e60⟩ : ∃ x, x = b.drop 60 := ⟨_, rfl⟩
  rw [← e60] at k60 r60 l60 n60
  obtain ⟨u60, eu60⟩ : ∃ x, x = numP b60 4 := ⟨_, rfl⟩
  rw [← eu60] at n60
  have H60 := Aside0.mk (fun (W : World) (h : Below w.heap.size w W) => volumes_number.calls 9 A60 (c - 60) b60 4 _ W (Kd.C_of_reads (enc := Value.int .u8) (d := (0 : Int)) (h1 := fun _ => rfl) (r60 W (HR.out.below h))) l60 n60)
  obtain ⟨A64, k64, r64, l64⟩ := print_drop_of (P := Try.prog) (Value.int .u8) 0 22 5 .i64 Try.underlying22 hi hsz A c b 64 (by decide) (by omega) hc
  rw [show ((64 : Int)).toNat = 64 from rfl] at k64 r64 l64
  obtain ⟨b64, e64⟩ : ∃ x, x = b.drop 64 := ⟨_, rfl⟩
  rw [← e64] at k64 r64 l64 hcan
  simp only [← e64]
  have kT := cut_to (P := Try.prog) 22 5 .i64 Try.underlying22 hi A b.length c 60 (by decide) (by omega) hc
  rw [show ((60 : Int)).toNat = 60 from rfl] at kT
  have nT : gzip_Sum.f 1000 (b.take 60) = some (crc (b.take 60)) := gz_f 1000 _ (by rw [List.length_take]; omega) (by rw [List.length_take]; omega)
  have hTl : (b.take 60).length = 60 := by rw [List.length_take]; omega
  have hcr := crc_in (b.take 60)
  obtain ⟨s60, es60⟩ : ∃ x, x = crc (b.take 60) := ⟨_, rfl⟩
  have HT : Aside0 (∀ (W : World), Below w.heap.size w W → Calls Try.prog 80 #[.slice A 60 c] W fun e w' => e = .returned (.int .u32 s60) ∧ Drawn0 W w') := ⟨fun W h => by
    have hh := gzip_Sum.calls 1000 A c (b.take 60) _ W (by have := reads_pre (HR.out.below h) 60 (by omega); exact Kd.C_of_reads (enc := Value.int .u8) (d := (0 : Int)) (h1 := fun _ => rfl) (by rw [hTl]; exact this)) (by omega) nT
    rw [hTl, ← es60] at hh
    exact hh⟩
  rw [← es60] at hh hcr
  rw [← e60, ← eu60] at hh
  rw [← e56, ← eu56] at h56
  rw [← e24, ← eu24] at hfl
  simp only [← e52, ← eu52]
  have hw1 : wrap64 v1 = v1 := wrap_u4 (by rw [← hv1, eu16]; exact numP_in4 b16 (by rw [e16]; exact hbd 16))
  have hw2 : wrap64 v2 = v2 := wrap_u4 (by rw [← hv2, eu20]; exact numP_in4 b20 (by rw [e20]; exact hbd 20))
  have hu52 := numP_in4 b52 (by rw [e52]; exact hbd 52)
  rw [← eu52] at hu52
  subst hv0 hv1 hv2
  have d0 : decide ((b.length : Int) < 64) = false := decide_eq_false (by omega)
  have d1 : (8 : Int) ≤ (c : Int) := by omega
  have d2 : decide (1 < u24) = false := decide_eq_false (by omega)
  have kA : ∀ W : World, Below w.heap.size w W → (convert 22 9 (.slice A 8 c)).run Try.prog W = .ok (.string (strOfNums (b.take 8))) W := fun W h => string_of_reads Try.underlying22 Try.underlying5 Try.underlying9 ((reads_pre hr 8 (by omega)).below h)
  have kB := kA _ (below_alloc (Below.refl _ _) (.cells #[.int .u64 0, .int .i64 0, .int .i64 0, .bool false, .int .i64 0, .int .i64 0, .int .i64 0, .slice none 0 0] 88))
  have hcm : IntKind.u64.wrap s60 = s60 := wrap_u64 ⟨hcr.1, by have := hcr.2; omega⟩
  have hne2 : (u60 != s60) = false := by rw [hh]; simp
  have hne3 : (u56 != 0) = false := by rw [h56]; rfl
  have hcb := crc_in b64
  have hlb : b64.length ≤ 100000000 := by rw [e64, List.length_drop]; omega
  have HS0 : Aside0 (∀ (W : World), Below w.heap.size w W → Calls Try.prog 80 #[.slice A64 b64.length (c - 64)] W fun e w' => e = .returned (.int .u32 (crc b64)) ∧ Drawn0 W w') := ⟨fun W h => gzip_Sum.calls (10 * b64.length + 1) A64 (c - 64) b64 _ W (Kd.C_of_reads (enc := Value.int .u8) (d := (0 : Int)) (h1 := fun _ => rfl) (r64 W (HR.out.below h))) (by omega) (gz_f _ _ hlb (by omega))⟩
  have HCN : Aside0 (∀ (W : World), Below w.heap.size w W → Calls Try.prog 91 #[.agg #[.int .u64 u8, .int .i64 u16, .int .i64 u20, .bool v3, .int .i64 v4, .int .i64 v5, .int .i64 v6, .slice A64 b64.length (c - 64)]] W fun e w' => e = .returned (.bool cn) ∧ Below W.heap.size W w') := ⟨fun W h => volumes_volume_can.calls kc u8 u16 u20 v3 v4 v5 v6 A64 (c - 64) b64 cn W (Kd.C_of_reads (enc := Value.int .u8) (d := (0 : Int)) (h1 := fun _ => rfl) (r64 W (HR.out.below h))) (by omega) hcan⟩
  obtain ⟨s64, es64⟩ : ∃ x, x = crc b64 := ⟨_, rfl⟩
  rw [← es64] at HS0 hcb
  simp only [← es64]
  have HL64 := Aside0.mk l64
  have HR64 := Aside0.mk r64
  clear l64 r64 e64 es64 hcan hlb
  clear hr kA nT hTl es60 hbd hi hsz hb hh h56 hfl n8 e8 l8 r8 eu8 n16 e16 l16 r16 eu16 n20 e20 l20 r20 eu20 n24 e24 l24 r24 eu24 n28 e28 l28 r28 eu28 n36 e36 l36 r36 eu36 n44 e44 l44 r44 eu44 n52 e52 l52 r52 eu52 n56 e56 l56 r56 eu56 n60 e60 l60 r60 eu60
  refine hide_post (fun Q HQ => ?_)
  go_enter Try.func67, Try.ntmps67
  go_upto_region 4 with (go_at_call 90; refine (H24.out _ (below_alloc (Below.refl _ _) _)).mono ?_; rintro e w2 ⟨rfl, ⟨m2, rfl⟩⟩)
  clear kB H24
  have hg := heap_alloc_new w (.cells #[.int .u64 0, .int .i64 0, .int .i64 0, .bool false, .int .i64 0, .int .i64 0, .int .i64 0, .slice none 0 0] 88)
  have HB := Aside0.mk (pw_below_drewN (below_alloc (Below.refl w.heap.size w) (.cells #[.int .u64 0, .int .i64 0, .int .i64 0, .bool false, .int .i64 0, .int .i64 0, .int .i64 0, .slice none 0 0] 88)) m2)
  have HG := Aside0.mk (show ((w.alloc (.cells #[.int .u64 0, .int .i64 0, .int .i64 0, .bool false, .int .i64 0, .int .i64 0, .int .i64 0, .slice none 0 0] 88)).drewN m2).heap[w.heap.size]? = some (.cells #[.int .u64 0, .int .i64 0, .int .i64 0, .bool false, .int .i64 0, .int .i64 0, .int .i64 0, .slice none 0 0] 88 (0, 0)) from hg)
  generalize (w.alloc (.cells #[.int .u64 0, .int .i64 0, .int .i64 0, .bool false, .int .i64 0, .int .i64 0, .int .i64 0, .slice none 0 0] 88)).drewN m2 = wr at HB HG ⊢
  clear hg
  have HBd := Aside0.mk (show Below w.heap.size w wr.drew from below_drew HB.out)
  have HGd := Aside0.mk (show wr.drew.heap[w.heap.size]? = some (.cells #[.int .u64 0, .int .i64 0, .int .i64 0, .bool false, .int .i64 0, .int .i64 0, .int .i64 0, .slice none 0 0] 88 (0, 0)) from HG.out)
  refine start_ (n := 18) (S := fun w' => True) (ds := []) #[false, false, false, false, false, false, false, false, false, false, false, false, false, false, false, false, false, false] (by kernel_rfl) rfl rfl trivial (fun hHeld => ?_)
  generalize wr.drew = wd at HBd HGd hHeld ⊢
  refine pure_ (i := 0) (N := some 19) (v := ?_) (a' := ?_) #[true, false, false, false, false, false, false, false, false, false, false, false, false, false, false, false, false, false] rfl rfl (by kernel_rfl) (fun _ _ _ h => h) (Or.inl ⟨by rfl, ?_⟩) ?_ ?_
  rotate_left
  · intro w'
    go_simp
    with_reducible rfl
  rotate_left
  · simp only [Act.put, List.setIfInBounds_toArray, List.set_cons_zero, List.set_cons_succ, i64_w, i32_w]
    rfl
  refine pure_ (i := 1) (N := some 20) (v := ?_) (a' := ?_) #[true, true, false, false, false, false, false, false, false, false, false, false, false, false, false, false, false, false] rfl rfl (by kernel_rfl) (fun _ _ _ h => h) (Or.inl ⟨by rfl, ?_⟩) ?_ ?_
  rotate_left
  · intro w'
    go_simp
    with_reducible rfl
  rotate_left
  · simp only [Act.put, List.setIfInBounds_toArray, List.set_cons_zero, List.set_cons_succ, i64_w, i32_w]
    rfl
  refine pure_ (i := 3) (N := some 22) (v := ?_) (a' := ?_) #[true, true, false, true, false, false, false, false, false, false, false, false, false, false, false, false, false, false] rfl rfl (by kernel_rfl) (fun _ _ _ h => h) (Or.inl ⟨by rfl, ?_⟩) ?_ ?_
  rotate_left
  · intro w'
    go_simp
    with_reducible rfl
  rotate_left
  · simp only [Act.put, List.setIfInBounds_toArray, List.set_cons_zero, List.set_cons_succ, i64_w, i32_w]
    rfl
  refine pure_ (i := 4) (N := some 23) (v := ?_) (a' := ?_) #[true, true, false, true, true, false, false, false, false, false, false, false, false, false, false, false, false, false] rfl rfl (by kernel_rfl) (fun _ _ _ h => h) (Or.inl ⟨by rfl, ?_⟩) ?_ ?_
  rotate_left
  · intro w'
    go_simp
    with_reducible rfl
  rotate_left
  · simp only [Act.put, List.setIfInBounds_toArray, List.set_cons_zero, List.set_cons_succ, i64_w, i32_w]
    rfl
  refine one_ (i := 2) (N := some 21) #[true, true, true, true, true, false, false, false, false, false, false, false, false, false, false, false, false, false] rfl rfl (by kernel_rfl) (by decide) (fun K hK => ?_)
  refine goes_ Try.func90 (by kernel_rfl) rfl #[.slice A60 b60.length (c - 60), .int .i64 4] (by rfl) rfl rfl (by simp only [List.map_toArray, List.map_cons, List.map_nil]; rfl) ?_
  with_reducible refine ((H60.out wd HBd.out)).mono ?_
  rintro e w3 ⟨rfl, ⟨m3, rfl⟩⟩
  refine ⟨_, rfl, ?_⟩
  refine hK.out _ _ trivial (fun hHeld => ?_)
  clear hK K
  refine norm_ (a' := ?_) ?_ ?_
  rotate_left
  · show Act.put _ (some 21) _ = _
    simp only [Act.put, List.setIfInBounds_toArray, List.set_cons_zero, List.set_cons_succ, i64_w, i32_w]
    rfl
  refine one_ (i := 5) (N := some 24) #[true, true, true, true, true, true, false, false, false, false, false, false, false, false, false, false, false, false] rfl rfl (by kernel_rfl) (by decide) (fun K hK => ?_)
  refine goes_ Try.func80 (by kernel_rfl) rfl #[.slice A 60 c] (by rfl) rfl rfl (by simp only [List.map_toArray, List.map_cons, List.map_nil]; rfl) ?_
  with_reducible refine ((HT.out (wd.drewN m3) (pw_below_drewN HBd.out m3))).mono ?_
  rintro e w4 ⟨rfl, ⟨m4, rfl⟩⟩
  refine ⟨_, rfl, ?_⟩
  refine hK.out _ _ trivial (fun hHeld => ?_)
  clear hK K
  refine norm_ (a' := ?_) ?_ ?_
  rotate_left
  · show Act.put _ (some 24) _ = _
    simp only [Act.put, List.setIfInBounds_toArray, List.set_cons_zero, List.set_cons_succ, i64_w, i32_w]
    rfl
  refine pure_ (i := 6) (N := some 25) (v := ?_) (a' := ?_) #[true, true, true, true, true, true, true, false, false, false, false, false, false, false, false, false, false, false] rfl rfl (by kernel_rfl) (fun _ _ _ h => h) (Or.inl ⟨by rfl, ?_⟩) ?_ ?_
  rotate_left
  · intro w'
    go_simp
    with_reducible rfl
  rotate_left
  · simp only [Act.put, List.setIfInBounds_toArray, List.set_cons_zero, List.set_cons_succ, i64_w, i32_w]
    rfl
  refine pure_ (i := 7) (N := some 26) (v := ?_) (a' := ?_) #[true, true, true, true, true, true, true, true, false, false, false, false, false, false, false, false, false, false] rfl rfl (by kernel_rfl) (fun _ _ _ h => h) (Or.inl ⟨by rfl, ?_⟩) ?_ ?_
  rotate_left
  · intro w'
    go_simp
    with_reducible rfl
  rotate_left
  · simp only [Act.put, List.setIfInBounds_toArray, List.set_cons_zero, List.set_cons_succ, i64_w, i32_w]
    rfl
  refine pure_ (i := 8) (N := some 27) (v := ?_) (a' := ?_) #[true, true, true, true, true, true, true, true, true, false, false, false, false, false, false, false, false, false] rfl rfl (by kernel_rfl) (fun _ _ _ h => h) (Or.inl ⟨by rfl, ?_⟩) ?_ ?_
  rotate_left
  · intro w'
    go_simp
    with_reducible rfl
  rotate_left
  · simp only [Act.put, List.setIfInBounds_toArray, List.set_cons_zero, List.set_cons_succ, i64_w, i32_w]
    rfl
  refine pure_ (i := 9) (N := some 28) (v := ?_) (a' := ?_) #[true, true, true, true, true, true, true, true, true, true, false, false, false, false, false, false, false, false] rfl rfl (by kernel_rfl) (fun _ _ _ h => h) (Or.inl ⟨by rfl, ?_⟩) ?_ ?_
  rotate_left
  · intro w'
    go_simp
    with_reducible rfl
  rotate_left
  · simp only [Act.put, List.setIfInBounds_toArray, List.set_cons_zero, List.set_cons_succ, i64_w, i32_w]
    rfl
  refine pure_ (i := 10) (N := some 29) (v := ?_) (a' := ?_) #[true, true, true, true, true, true, true, true, true, true, true, false, false, false, false, false, false, false] rfl rfl (by kernel_rfl) (fun _ _ _ h => h) (Or.inl ⟨by rfl, ?_⟩) ?_ ?_
  rotate_left
  · intro w'
    go_simp
    with_reducible rfl
  rotate_left
  · simp only [Act.put, List.setIfInBounds_toArray, List.set_cons_zero, List.set_cons_succ, i64_w, i32_w]
    rfl
  refine one_ (i := 11) (N := some 30) #[true, true, true, true, true, true, true, true, true, true, true, true, false, false, false, false, false, false] rfl rfl (by kernel_rfl) (by decide) (fun K hK => ?_)
  refine goes_ Try.func90 (by kernel_rfl) rfl #[.slice A56 b56.length (c - 56), .int .i64 4] (by rfl) rfl rfl (by simp only [List.map_toArray, List.map_cons, List.map_nil]; rfl) ?_
  with_reducible refine ((H56.out ((wd.drewN m3).drewN m4) (pw_below_drewN (pw_below_drewN HBd.out m3) m4))).mono ?_
  rintro e w5 ⟨rfl, ⟨m5, rfl⟩⟩
  refine ⟨_, rfl, ?_⟩
  refine hK.out _ _ trivial (fun hHeld => ?_)
  clear hK K
  refine norm_ (a' := ?_) ?_ ?_
  rotate_left
  · show Act.put _ (some 30) _ = _
    simp only [Act.put, List.setIfInBounds_toArray, List.set_cons_zero, List.set_cons_succ, i64_w, i32_w]
    rfl
  refine pure_ (i := 12) (N := some 31) (v := ?_) (a' := ?_) #[true, true, true, true, true, true, true, true, true, true, true, true, true, false, false, false, false, false] rfl rfl (by kernel_rfl) (fun _ _ _ h => h) (Or.inl ⟨by rfl, ?_⟩) ?_ ?_
  rotate_left
  · intro w'
    go_simp
    with_reducible rfl
  rotate_left
  · simp only [Act.put, List.setIfInBounds_toArray, List.set_cons_zero, List.set_cons_succ, i64_w, i32_w]
    rfl
  refine pure_ (i := 13) (N := some 32) (v := ?_) (a' := ?_) #[true, true, true, true, true, true, true, true, true, true, true, true, true, true, false, false, false, false] rfl rfl (by kernel_rfl) (fun _ _ _ h => h) (Or.inl ⟨by rfl, ?_⟩) ?_ ?_
  rotate_left
  · intro w'
    go_simp
    with_reducible rfl
  rotate_left
  · simp only [Act.put, List.setIfInBounds_toArray, List.set_cons_zero, List.set_cons_succ, i64_w, i32_w]
    rfl
  refine pure_ (i := 14) (N := some 33) (v := ?_) (a' := ?_) #[true, true, true, true, true, true, true, true, true, true, true, true, true, true, true, false, false, false] rfl rfl (by kernel_rfl) (fun _ _ _ h => h) (Or.inl ⟨by rfl, ?_⟩) ?_ ?_
  rotate_left
  · intro w'
    go_simp
    with_reducible rfl
  rotate_left
  · simp only [Act.put, List.setIfInBounds_toArray, List.set_cons_zero, List.set_cons_succ, i64_w, i32_w]
    rfl
  refine pure_ (i := 15) (N := some 34) (v := ?_) (a' := ?_) #[true, true, true, true, true, true, true, true, true, true, true, true, true, true, true, true, false, false] rfl rfl (by kernel_rfl) (fun _ _ _ h => h) (Or.inl ⟨by rfl, ?_⟩) ?_ ?_
  rotate_left
  · intro w'
    go_simp
    with_reducible rfl
  rotate_left
  · simp only [Act.put, List.setIfInBounds_toArray, List.set_cons_zero, List.set_cons_succ, i64_w, i32_w]
    rfl
  refine pure_ (i := 16) (N := some 35) (v := ?_) (a' := ?_) #[true, true, true, true, true, true, true, true, true, true, true, true, true, true, true, true, true, false] rfl rfl (by kernel_rfl) (fun _ _ _ h => h) (Or.inl ⟨by rfl, ?_⟩) ?_ ?_
  rotate_left
  · intro w'
    go_simp
    with_reducible rfl
  rotate_left
  · simp only [Act.put, List.setIfInBounds_toArray, List.set_cons_zero, List.set_cons_succ, i64_w, i32_w]
    rfl
  refine pure_ (i := 17) (N := some 36) (v := ?_) (a' := ?_) #[true, true, true, true, true, true, true, true, true, true, true, true, true, true, true, true, true, true] rfl rfl (by kernel_rfl) (fun _ _ _ h => h) (Or.inl ⟨by rfl, ?_⟩) ?_ ?_
  rotate_left
  · intro w'
    go_simp
    with_reducible rfl
  rotate_left
  · simp only [Act.put, List.setIfInBounds_toArray, List.set_cons_zero, List.set_cons_succ, i64_w, i32_w]
    rfl
  refine done_ (by kernel_rfl) ?_
  have HBq := Aside0.mk (pw_below_drewN (pw_below_drewN (pw_below_drewN HBd.out m3) m4) m5)
  have HGq := Aside0.mk (show (((wd.drewN m3).drewN m4).drewN m5).heap[w.heap.size]? = some (.cells #[.int .u64 0, .int .i64 0, .int .i64 0, .bool false, .int .i64 0, .int .i64 0, .int .i64 0, .slice none 0 0] 88 (0, 0)) from HGd.out)
  generalize ((wd.drewN m3).drewN m4).drewN m5 = wq at HBq HGq ⊢
  go_upto_region 6 with fail
  have HBe := Aside0.mk (show Below w.heap.size w wq.drew from below_drew HBq.out)
  have HGe := Aside0.mk (show wq.drew.heap[w.heap.size]? = some (.cells #[.int .u64 0, .int .i64 0, .int .i64 0, .bool false, .int .i64 0, .int .i64 0, .int .i64 0, .slice none 0 0] 88 (0, 0)) from HGq.out)
  refine start_ (n := 31) (S := fun w' => True) (ds := [30]) #[false, false, false, false, false, false, false, false, false, false, false, false, false, false, false, false, false, false, false, false, false, false, false, false, false, false, false, false, false, false, false] (by kernel_rfl) rfl rfl trivial (fun hHeld => ?_)
  generalize wq.drew = we at HBe HGe hHeld ⊢
  refine pure_ (i := 0) (N := some 38) (v := ?_) (a' := ?_) #[true, false, false, false, false, false, false, false, false, false, false, false, false, false, false, false, false, false, false, false, false, false, false, false, false, false, false, false, false, false, false] rfl rfl (by kernel_rfl) (fun _ _ _ h => h) (Or.inl ⟨by rfl, ?_⟩) ?_ ?_
  rotate_left
  · intro w'
    go_simp
    with_reducible rfl
  rotate_left
  · simp only [Act.put, List.setIfInBounds_toArray, List.set_cons_zero, List.set_cons_succ, i64_w, i32_w]
    rfl
  refine pure_ (i := 1) (N := some 39) (v := ?_) (a' := ?_) #[true, true, false, false, false, false, false, false, false, false, false, false, false, false, false, false, false, false, false, false, false, false, false, false, false, false, false, false, false, false, false] rfl rfl (by kernel_rfl) (fun _ _ _ h => h) (Or.inl ⟨by rfl, ?_⟩) ?_ ?_
  rotate_left
  · intro w'
    go_simp
    with_reducible rfl
  rotate_left
  · simp only [Act.put, List.setIfInBounds_toArray, List.set_cons_zero, List.set_cons_succ, i64_w, i32_w]
    rfl
  refine pure_ (i := 3) (N := some 41) (v := ?_) (a' := ?_) #[true, true, false, true, false, false, false, false, false, false, false, false, false, false, false, false, false, false, false, false, false, false, false, false, false, false, false, false, false, false, false] rfl rfl (by kernel_rfl) (fun _ _ _ h => h) (Or.inl ⟨by rfl, ?_⟩) ?_ ?_
  rotate_left
  · intro w'
    go_simp
    with_reducible rfl
  rotate_left
  · simp only [Act.put, List.setIfInBounds_toArray, List.set_cons_zero, List.set_cons_succ, i64_w, i32_w]
    rfl
  refine pure_ (i := 4) (N := some 42) (v := ?_) (a' := ?_) #[true, true, false, true, true, false, false, false, false, false, false, false, false, false, false, false, false, false, false, false, false, false, false, false, false, false, false, false, false, false, false] rfl rfl (by kernel_rfl) (fun _ _ _ h => h) (Or.inl ⟨by rfl, ?_⟩) ?_ ?_
  rotate_left
  · intro w'
    go_simp
    with_reducible rfl
  rotate_left
  · simp only [Act.put, List.setIfInBounds_toArray, List.set_cons_zero, List.set_cons_succ, i64_w, i32_w]
    rfl
  refine pure_ (i := 7) (N := some 45) (v := ?_) (a' := ?_) #[true, true, false, true, true, false, false, true, false, false, false, false, false, false, false, false, false, false, false, false, false, false, false, false, false, false, false, false, false, false, false] rfl rfl (by kernel_rfl) (fun _ _ _ h => h) (Or.inl ⟨by rfl, ?_⟩) ?_ ?_
  rotate_left
  · intro w'
    go_simp
    with_reducible rfl
  rotate_left
  · simp only [Act.put, List.setIfInBounds_toArray, List.set_cons_zero, List.set_cons_succ, i64_w, i32_w]
    rfl
  refine pure_ (i := 8) (N := some 46) (v := ?_) (a' := ?_) #[true, true, false, true, true, false, false, true, true, false, false, false, false, false, false, false, false, false, false, false, false, false, false, false, false, false, false, false, false, false, false] rfl rfl (by kernel_rfl) (fun _ _ _ h => h) (Or.inl ⟨by rfl, ?_⟩) ?_ ?_
  rotate_left
  · intro w'
    go_simp
    with_reducible rfl
  rotate_left
  · simp only [Act.put, List.setIfInBounds_toArray, List.set_cons_zero, List.set_cons_succ, i64_w, i32_w]
    rfl
  refine pure_ (i := 11) (N := some 49) (v := ?_) (a' := ?_) #[true, true, false, true, true, false, false, true, true, false, false, true, false, false, false, false, false, false, false, false, false, false, false, false, false, false, false, false, false, false, false] rfl rfl (by kernel_rfl) (fun _ _ _ h => h) (Or.inl ⟨by rfl, ?_⟩) ?_ ?_
  rotate_left
  · intro w'
    go_simp
    with_reducible rfl
  rotate_left
  · simp only [Act.put, List.setIfInBounds_toArray, List.set_cons_zero, List.set_cons_succ, i64_w, i32_w]
    rfl
  refine pure_ (i := 12) (N := some 50) (v := ?_) (a' := ?_) #[true, true, false, true, true, false, false, true, true, false, false, true, true, false, false, false, false, false, false, false, false, false, false, false, false, false, false, false, false, false, false] rfl rfl (by kernel_rfl) (fun _ _ _ h => h) (Or.inl ⟨by rfl, ?_⟩) ?_ ?_
  rotate_left
  · intro w'
    go_simp
    with_reducible rfl
  rotate_left
  · simp only [Act.put, List.setIfInBounds_toArray, List.set_cons_zero, List.set_cons_succ, i64_w, i32_w]
    rfl
  refine pure_ (i := 13) (N := some 51) (v := ?_) (a' := ?_) #[true, true, false, true, true, false, false, true, true, false, false, true, true, true, false, false, false, false, false, false, false, false, false, false, false, false, false, false, false, false, false] rfl rfl (by kernel_rfl) (fun _ _ _ h => h) (Or.inl ⟨by rfl, ?_⟩) ?_ ?_
  rotate_left
  · intro w'
    go_simp
    with_reducible rfl
  rotate_left
  · simp only [Act.put, List.setIfInBounds_toArray, List.set_cons_zero, List.set_cons_succ, i64_w, i32_w]
    rfl
  refine pure_ (i := 14) (N := some 52) (v := ?_) (a' := ?_) #[true, true, false, true, true, false, false, true, true, false, false, true, true, true, true, false, false, false, false, false, false, false, false, false, false, false, false, false, false, false, false] rfl rfl (by kernel_rfl) (fun _ _ _ h => h) (Or.inl ⟨by rfl, ?_⟩) ?_ ?_
  rotate_left
  · intro w'
    go_simp
    with_reducible rfl
  rotate_left
  · simp only [Act.put, List.setIfInBounds_toArray, List.set_cons_zero, List.set_cons_succ, i64_w, i32_w]
    rfl
  refine pure_ (i := 17) (N := some 55) (v := ?_) (a' := ?_) #[true, true, false, true, true, false, false, true, true, false, false, true, true, true, true, false, false, true, false, false, false, false, false, false, false, false, false, false, false, false, false] rfl rfl (by kernel_rfl) (fun _ _ _ h => h) (Or.inl ⟨by rfl, ?_⟩) ?_ ?_
  rotate_left
  · intro w'
    go_simp
    with_reducible rfl
  rotate_left
  · simp only [Act.put, List.setIfInBounds_toArray, List.set_cons_zero, List.set_cons_succ, i64_w, i32_w]
    rfl
  refine pure_ (i := 18) (N := some 56) (v := ?_) (a' := ?_) #[true, true, false, true, true, false, false, true, true, false, false, true, true, true, true, false, false, true, true, false, false, false, false, false, false, false, false, false, false, false, false] rfl rfl (by kernel_rfl) (fun _ _ _ h => h) (Or.inl ⟨by rfl, ?_⟩) ?_ ?_
  rotate_left
  · intro w'
    go_simp
    with_reducible rfl
  rotate_left
  · simp only [Act.put, List.setIfInBounds_toArray, List.set_cons_zero, List.set_cons_succ, i64_w, i32_w]
    rfl
  refine pure_ (i := 21) (N := some 59) (v := ?_) (a' := ?_) #[true, true, false, true, true, false, false, true, true, false, false, true, true, true, true, false, false, true, true, false, false, true, false, false, false, false, false, false, false, false, false] rfl rfl (by kernel_rfl) (fun _ _ _ h => h) (Or.inl ⟨by rfl, ?_⟩) ?_ ?_
  rotate_left
  · intro w'
    go_simp
    with_reducible rfl
  rotate_left
  · simp only [Act.put, List.setIfInBounds_toArray, List.set_cons_zero, List.set_cons_succ, i64_w, i32_w]
    rfl
  refine pure_ (i := 22) (N := some 60) (v := ?_) (a' := ?_) #[true, true, false, true, true, false, false, true, true, false, false, true, true, true, true, false, false, true, true, false, false, true, true, false, false, false, false, false, false, false, false] rfl rfl (by kernel_rfl) (fun _ _ _ h => h) (Or.inl ⟨by rfl, ?_⟩) ?_ ?_
  rotate_left
  · intro w'
    go_simp
    with_reducible rfl
  rotate_left
  · simp only [Act.put, List.setIfInBounds_toArray, List.set_cons_zero, List.set_cons_succ, i64_w, i32_w]
    rfl
  refine pure_ (i := 26) (N := some 64) (v := ?_) (a' := ?_) #[true, true, false, true, true, false, false, true, true, false, false, true, true, true, true, false, false, true, true, false, false, true, true, false, false, false, true, false, false, false, false] rfl rfl (by kernel_rfl) (fun _ _ _ h => h) (Or.inl ⟨by rfl, ?_⟩) ?_ ?_
  rotate_left
  · intro w'
    go_simp
    with_reducible rfl
  rotate_left
  · simp only [Act.put, List.setIfInBounds_toArray, List.set_cons_zero, List.set_cons_succ, i64_w, i32_w]
    rfl
  refine pure_ (i := 27) (N := some 65) (v := ?_) (a' := ?_) #[true, true, false, true, true, false, false, true, true, false, false, true, true, true, true, false, false, true, true, false, false, true, true, false, false, false, true, true, false, false, false] rfl rfl (by kernel_rfl) (fun _ _ _ h => h) (Or.inl ⟨by rfl, ?_⟩) ?_ ?_
  rotate_left
  · intro w'
    go_simp
    with_reducible rfl
  rotate_left
  · simp only [Act.put, List.setIfInBounds_toArray, List.set_cons_zero, List.set_cons_succ, i64_w, i32_w]
    rfl
  refine join_ (σ := Unit) 1 #[true, true, true, true, true, true, true, true, true, true, true, true, true, true, true, true, true, true, true, true, true, true, true, true, true, true, true, true, true, true, false] (fun _ => [(40, .int .u64 u8), (43, .int .u64 u16), (47, .int .u64 u20), (53, .int .u64 u28), (57, .int .u64 u36), (61, .int .u64 u44), (44, .int .i64 (wrap64 u16)), (48, .int .i64 (wrap64 u20)), (54, .int .i64 (wrap64 u28)), (58, .int .i64 (wrap64 u36)), (62, .int .i64 (wrap64 u44)), (63, .agg #[.int .u64 u8, .int .i64 (u16), .int .i64 (u20), .bool v3, .int .i64 (v4), .int .i64 (v5), .int .i64 (v6)]), (66, .agg #[.int .u64 u8, .int .i64 (u16), .int .i64 (u20), .bool v3, .int .i64 (v4), .int .i64 (v5), .int .i64 (v6), .slice A64 b64.length (c - 64)]), (5, .pointer (some ⟨we.heap.size, 0, none⟩))]) (fun _ w' => Below we.heap.size we w' ∧ w'.heap[we.heap.size]? = some (.cells #[.int .u64 0, .int .i64 0, .int .i64 0, .bool false, .int .i64 0, .int .i64 0, .int .i64 0, .slice none 0 0] 88 (0, 0))) ?_ ?_
  rotate_left
  · intro hCont
    refine two_ (i := 2) (j := 29) (Ni := some 40) (Nj := some 5) #[true, true, true, true, true, false, false, true, true, false, false, true, true, true, true, false, false, true, true, false, false, true, true, false, false, false, true, true, false, false, false] #[true, true, false, true, true, false, false, true, true, false, false, true, true, true, true, false, false, true, true, false, false, true, true, false, false, false, true, true, false, true, false] rfl rfl rfl rfl (by kernel_rfl) (by decide) (by decide) (fun K hK => ?_) (fun K hK => ?_)
    · skip
      refine goes_ Try.func90 (by kernel_rfl) rfl #[.slice A8 b8.length (c - 8), .int .i64 8] (by rfl) rfl rfl (by simp only [List.map_toArray, List.map_cons, List.map_nil]; rfl) ?_
      with_reducible refine ((H8.out we (by repeat (first | exact HBe.out | apply below_alloc | apply pw_below_drewN)))).mono ?_
      rintro e u2 ⟨rfl, ⟨n2, rfl⟩⟩
      refine ⟨_, rfl, ?_⟩
      refine hK.out _ _ trivial (fun hHeld => ?_)
      clear hK K
      refine norm_ (a' := ?_) ?_ ?_
      rotate_left
      · show Act.put _ (some 40) _ = _
        simp only [Act.put, List.setIfInBounds_toArray, List.set_cons_zero, List.set_cons_succ, i64_w, i32_w]
        rfl
      refine two_ (i := 5) (j := 29) (Ni := some 43) (Nj := some 5) #[true, true, true, true, true, true, false, true, true, false, false, true, true, true, true, false, false, true, true, false, false, true, true, false, false, false, true, true, false, false, false] #[true, true, true, true, true, false, false, true, true, false, false, true, true, true, true, false, false, true, true, false, false, true, true, false, false, false, true, true, false, true, false] rfl rfl rfl rfl (by kernel_rfl) (by decide) (by decide) (fun K hK => ?_) (fun K hK => ?_)
      · skip
        refine goes_ Try.func90 (by kernel_rfl) rfl #[.slice A16 b16.length (c - 16), .int .i64 4] (by rfl) rfl rfl (by simp only [List.map_toArray, List.map_cons, List.map_nil]; rfl) ?_
        with_reducible refine ((H16.out (we.drewN n2) (by repeat (first | exact HBe.out | apply below_alloc | apply pw_below_drewN)))).mono ?_
        rintro e u5 ⟨rfl, ⟨n5, rfl⟩⟩
        refine ⟨_, rfl, ?_⟩
        refine hK.out _ _ trivial (fun hHeld => ?_)
        clear hK K
        refine norm_ (a' := ?_) ?_ ?_
        rotate_left
        · show Act.put _ (some 43) _ = _
          simp only [Act.put, List.setIfInBounds_toArray, List.set_cons_zero, List.set_cons_succ, i64_w, i32_w]
          rfl
        refine pure_ (i := 6) (N := some 44) (v := ?_) (a' := ?_) #[true, true, true, true, true, true, true, true, true, false, false, true, true, true, true, false, false, true, true, false, false, true, true, false, false, false, true, true, false, false, false] rfl rfl (by kernel_rfl) (fun _ _ _ h => h) (Or.inl ⟨by rfl, ?_⟩) ?_ ?_
        rotate_left
        · intro w'
          go_simp
          with_reducible rfl
        rotate_left
        · simp only [Act.put, List.setIfInBounds_toArray, List.set_cons_zero, List.set_cons_succ, i64_w, i32_w]
          rfl
        refine two_ (i := 9) (j := 29) (Ni := some 47) (Nj := some 5) #[true, true, true, true, true, true, true, true, true, true, false, true, true, true, true, false, false, true, true, false, false, true, true, false, false, false, true, true, false, false, false] #[true, true, true, true, true, true, true, true, true, false, false, true, true, true, true, false, false, true, true, false, false, true, true, false, false, false, true, true, false, true, false] rfl rfl rfl rfl (by kernel_rfl) (by decide) (by decide) (fun K hK => ?_) (fun K hK => ?_)
        · skip
          refine goes_ Try.func90 (by kernel_rfl) rfl #[.slice A20 b20.length (c - 20), .int .i64 4] (by rfl) rfl rfl (by simp only [List.map_toArray, List.map_cons, List.map_nil]; rfl) ?_
          with_reducible refine ((H20.out ((we.drewN n2).drewN n5) (by repeat (first | exact HBe.out | apply below_alloc | apply pw_below_drewN)))).mono ?_
          rintro e u9 ⟨rfl, ⟨n9, rfl⟩⟩
          refine ⟨_, rfl, ?_⟩
          refine hK.out _ _ trivial (fun hHeld => ?_)
          clear hK K
          refine norm_ (a' := ?_) ?_ ?_
          rotate_left
          · show Act.put _ (some 47) _ = _
            simp only [Act.put, List.setIfInBounds_toArray, List.set_cons_zero, List.set_cons_succ, i64_w, i32_w]
            rfl
          refine pure_ (i := 10) (N := some 48) (v := ?_) (a' := ?_) #[true, true, true, true, true, true, true, true, true, true, true, true, true, true, true, false, false, true, true, false, false, true, true, false, false, false, true, true, false, false, false] rfl rfl (by kernel_rfl) (fun _ _ _ h => h) (Or.inl ⟨by rfl, ?_⟩) ?_ ?_
          rotate_left
          · intro w'
            go_simp
            with_reducible rfl
          rotate_left
          · simp only [Act.put, List.setIfInBounds_toArray, List.set_cons_zero, List.set_cons_succ, i64_w, i32_w]
            rfl
          refine two_ (i := 15) (j := 29) (Ni := some 53) (Nj := some 5) #[true, true, true, true, true, true, true, true, true, true, true, true, true, true, true, true, false, true, true, false, false, true, true, false, false, false, true, true, false, false, false] #[true, true, true, true, true, true, true, true, true, true, true, true, true, true, true, false, false, true, true, false, false, true, true, false, false, false, true, true, false, true, false] rfl rfl rfl rfl (by kernel_rfl) (by decide) (by decide) (fun K hK => ?_) (fun K hK => ?_)
          · skip
            refine goes_ Try.func90 (by kernel_rfl) rfl #[.slice A28 b28.length (c - 28), .int .i64 8] (by rfl) rfl rfl (by simp only [List.map_toArray, List.map_cons, List.map_nil]; rfl) ?_
            with_reducible refine ((H28.out (((we.drewN n2).drewN n5).drewN n9) (by repeat (first | exact HBe.out | apply below_alloc | apply pw_below_drewN)))).mono ?_
            rintro e u15 ⟨rfl, ⟨n15, rfl⟩⟩
            refine ⟨_, rfl, ?_⟩
            refine hK.out _ _ trivial (fun hHeld => ?_)
            clear hK K
            refine norm_ (a' := ?_) ?_ ?_
            rotate_left
            · show Act.put _ (some 53) _ = _
              simp only [Act.put, List.setIfInBounds_toArray, List.set_cons_zero, List.set_cons_succ, i64_w, i32_w]
              rfl
            refine pure_ (i := 16) (N := some 54) (v := ?_) (a' := ?_) #[true, true, true, true, true, true, true, true, true, true, true, true, true, true, true, true, true, true, true, false, false, true, true, false, false, false, true, true, false, false, false] rfl rfl (by kernel_rfl) (fun _ _ _ h => h) (Or.inl ⟨by rfl, ?_⟩) ?_ ?_
            rotate_left
            · intro w'
              go_simp
              with_reducible rfl
            rotate_left
            · simp only [Act.put, List.setIfInBounds_toArray, List.set_cons_zero, List.set_cons_succ, i64_w, i32_w]
              rfl
            refine two_ (i := 19) (j := 29) (Ni := some 57) (Nj := some 5) #[true, true, true, true, true, true, true, true, true, true, true, true, true, true, true, true, true, true, true, true, false, true, true, false, false, false, true, true, false, false, false] #[true, true, true, true, true, true, true, true, true, true, true, true, true, true, true, true, true, true, true, false, false, true, true, false, false, false, true, true, false, true, false] rfl rfl rfl rfl (by kernel_rfl) (by decide) (by decide) (fun K hK => ?_) (fun K hK => ?_)
            · skip
              refine goes_ Try.func90 (by kernel_rfl) rfl #[.slice A36 b36.length (c - 36), .int .i64 8] (by rfl) rfl rfl (by simp only [List.map_toArray, List.map_cons, List.map_nil]; rfl) ?_
              with_reducible refine ((H36.out ((((we.drewN n2).drewN n5).drewN n9).drewN n15) (by repeat (first | exact HBe.out | apply below_alloc | apply pw_below_drewN)))).mono ?_
              rintro e u19 ⟨rfl, ⟨n19, rfl⟩⟩
              refine ⟨_, rfl, ?_⟩
              refine hK.out _ _ trivial (fun hHeld => ?_)
              clear hK K
              refine norm_ (a' := ?_) ?_ ?_
              rotate_left
              · show Act.put _ (some 57) _ = _
                simp only [Act.put, List.setIfInBounds_toArray, List.set_cons_zero, List.set_cons_succ, i64_w, i32_w]
                rfl
              refine pure_ (i := 20) (N := some 58) (v := ?_) (a' := ?_) #[true, true, true, true, true, true, true, true, true, true, true, true, true, true, true, true, true, true, true, true, true, true, true, false, false, false, true, true, false, false, false] rfl rfl (by kernel_rfl) (fun _ _ _ h => h) (Or.inl ⟨by rfl, ?_⟩) ?_ ?_
              rotate_left
              · intro w'
                go_simp
                with_reducible rfl
              rotate_left
              · simp only [Act.put, List.setIfInBounds_toArray, List.set_cons_zero, List.set_cons_succ, i64_w, i32_w]
                rfl
              refine two_ (i := 23) (j := 29) (Ni := some 61) (Nj := some 5) #[true, true, true, true, true, true, true, true, true, true, true, true, true, true, true, true, true, true, true, true, true, true, true, true, false, false, true, true, false, false, false] #[true, true, true, true, true, true, true, true, true, true, true, true, true, true, true, true, true, true, true, true, true, true, true, false, false, false, true, true, false, true, false] rfl rfl rfl rfl (by kernel_rfl) (by decide) (by decide) (fun K hK => ?_) (fun K hK => ?_)
              · skip
                refine goes_ Try.func90 (by kernel_rfl) rfl #[.slice A44 b44.length (c - 44), .int .i64 8] (by rfl) rfl rfl (by simp only [List.map_toArray, List.map_cons, List.map_nil]; rfl) ?_
                with_reducible refine ((H44.out (((((we.drewN n2).drewN n5).drewN n9).drewN n15).drewN n19) (by repeat (first | exact HBe.out | apply below_alloc | apply pw_below_drewN)))).mono ?_
                rintro e u23 ⟨rfl, ⟨n23, rfl⟩⟩
                refine ⟨_, rfl, ?_⟩
                refine hK.out _ _ trivial (fun hHeld => ?_)
                clear hK K
                refine norm_ (a' := ?_) ?_ ?_
                rotate_left
                · show Act.put _ (some 61) _ = _
                  simp only [Act.put, List.setIfInBounds_toArray, List.set_cons_zero, List.set_cons_succ, i64_w, i32_w]
                  rfl
                refine pure_ (i := 24) (N := some 62) (v := ?_) (a' := ?_) #[true, true, true, true, true, true, true, true, true, true, true, true, true, true, true, true, true, true, true, true, true, true, true, true, true, false, true, true, false, false, false] rfl rfl (by kernel_rfl) (fun _ _ _ h => h) (Or.inl ⟨by rfl, ?_⟩) ?_ ?_
                rotate_left
                · intro w'
                  go_simp
                  with_reducible rfl
                rotate_left
                · simp only [Act.put, List.setIfInBounds_toArray, List.set_cons_zero, List.set_cons_succ, i64_w, i32_w]
                  rfl
                refine pure_ (i := 25) (N := some 63) (v := ?_) (a' := ?_) #[true, true, true, true, true, true, true, true, true, true, true, true, true, true, true, true, true, true, true, true, true, true, true, true, true, true, true, true, false, false, false] rfl rfl (by kernel_rfl) (fun _ _ _ h => h) (Or.inl ⟨by rfl, ?_⟩) ?_ ?_
                rotate_left
                · intro w'
                  go_simp
                  with_reducible rfl
                rotate_left
                · simp only [Act.put, List.setIfInBounds_toArray, List.set_cons_zero, List.set_cons_succ, i64_w, i32_w]
                  rfl
                refine pure_ (i := 28) (N := some 66) (v := ?_) (a' := ?_) #[true, true, true, true, true, true, true, true, true, true, true, true, true, true, true, true, true, true, true, true, true, true, true, true, true, true, true, true, true, false, false] rfl rfl (by kernel_rfl) (fun _ _ _ h => h) (Or.inl ⟨by rfl, ?_⟩) ?_ ?_
                rotate_left
                · intro w'
                  go_simp
                  with_reducible rfl
                rotate_left
                · simp only [Act.put, List.setIfInBounds_toArray, List.set_cons_zero, List.set_cons_succ, i64_w, i32_w]
                  rfl
                refine one_ (i := 29) (N := some 5) #[true, true, true, true, true, true, true, true, true, true, true, true, true, true, true, true, true, true, true, true, true, true, true, true, true, true, true, true, true, true, false] rfl rfl (by kernel_rfl) (by decide) (fun K hK => ?_)
                refine value_ (w1 := ?_) (v := ?_) (by rfl) rfl ?_ ?_
                rotate_left 2
                · go_simp
                  constructor
                  · rfl
                  · rfl
                refine hK.out _ _ trivial (fun hHeld => ?_)
                clear hK K
                refine norm_ (a' := ?_) ?_ ?_
                rotate_left
                · show Act.put _ (some 5) _ = _
                  simp only [Act.put, List.setIfInBounds_toArray, List.set_cons_zero, List.set_cons_succ, i64_w, i32_w]
                  rfl
                exact norm_ (by simp only [putAll, Act.put, List.setIfInBounds_toArray, List.set_cons_zero, List.set_cons_succ]) (hCont () _ ⟨(by repeat (first | exact Below.refl we.heap.size we | apply below_alloc | apply pw_below_drewN)), (show ((we.drewN (n2 + n5 + n9 + n15 + n19 + n23)).alloc (.cells #[.int .u64 0, .int .i64 0, .int .i64 0, .bool false, .int .i64 0, .int .i64 0, .int .i64 0, .slice none 0 0] 88)).heap[we.heap.size]? = some (.cells #[.int .u64 0, .int .i64 0, .int .i64 0, .bool false, .int .i64 0, .int .i64 0, .int .i64 0, .slice none 0 0] 88 (0, 0)) from heap_alloc_new _ _)⟩)
              · skip
                refine value_ (w1 := ?_) (v := ?_) (by rfl) rfl ?_ ?_
                rotate_left 2
                · go_simp
                  constructor
                  · rfl
                  · rfl
                refine hK.out _ _ trivial (fun hHeld => ?_)
                clear hK K
                refine norm_ (a' := ?_) ?_ ?_
                rotate_left
                · show Act.put _ (some 5) _ = _
                  simp only [Act.put, List.setIfInBounds_toArray, List.set_cons_zero, List.set_cons_succ, i64_w, i32_w]
                  rfl
                refine one_ (i := 23) (N := some 61) #[true, true, true, true, true, true, true, true, true, true, true, true, true, true, true, true, true, true, true, true, true, true, true, true, false, false, true, true, false, true, false] rfl rfl (by kernel_rfl) (by decide) (fun K hK => ?_)
                refine goes_ Try.func90 (by kernel_rfl) rfl #[.slice A44 b44.length (c - 44), .int .i64 8] (by rfl) rfl rfl (by simp only [List.map_toArray, List.map_cons, List.map_nil]; rfl) ?_
                with_reducible refine ((H44.out ((we.drewN (n2 + n5 + n9 + n15 + n19)).alloc (.cells #[.int .u64 0, .int .i64 0, .int .i64 0, .bool false, .int .i64 0, .int .i64 0, .int .i64 0, .slice none 0 0] 88)) (by repeat (first | exact HBe.out | apply below_alloc | apply pw_below_drewN)))).mono ?_
                rintro e u23 ⟨rfl, ⟨n23, rfl⟩⟩
                refine ⟨_, rfl, ?_⟩
                refine hK.out _ _ trivial (fun hHeld => ?_)
                clear hK K
                refine norm_ (a' := ?_) ?_ ?_
                rotate_left
                · show Act.put _ (some 61) _ = _
                  simp only [Act.put, List.setIfInBounds_toArray, List.set_cons_zero, List.set_cons_succ, i64_w, i32_w]
                  rfl
                refine pure_ (i := 24) (N := some 62) (v := ?_) (a' := ?_) #[true, true, true, true, true, true, true, true, true, true, true, true, true, true, true, true, true, true, true, true, true, true, true, true, true, false, true, true, false, true, false] rfl rfl (by kernel_rfl) (fun _ _ _ h => h) (Or.inl ⟨by rfl, ?_⟩) ?_ ?_
                rotate_left
                · intro w'
                  go_simp
                  with_reducible rfl
                rotate_left
                · simp only [Act.put, List.setIfInBounds_toArray, List.set_cons_zero, List.set_cons_succ, i64_w, i32_w]
                  rfl
                refine pure_ (i := 25) (N := some 63) (v := ?_) (a' := ?_) #[true, true, true, true, true, true, true, true, true, true, true, true, true, true, true, true, true, true, true, true, true, true, true, true, true, true, true, true, false, true, false] rfl rfl (by kernel_rfl) (fun _ _ _ h => h) (Or.inl ⟨by rfl, ?_⟩) ?_ ?_
                rotate_left
                · intro w'
                  go_simp
                  with_reducible rfl
                rotate_left
                · simp only [Act.put, List.setIfInBounds_toArray, List.set_cons_zero, List.set_cons_succ, i64_w, i32_w]
                  rfl
                refine pure_ (i := 28) (N := some 66) (v := ?_) (a' := ?_) #[true, true, true, true, true, true, true, true, true, true, true, true, true, true, true, true, true, true, true, true, true, true, true, true, true, true, true, true, true, true, false] rfl rfl (by kernel_rfl) (fun _ _ _ h => h) (Or.inl ⟨by rfl, ?_⟩) ?_ ?_
                rotate_left
                · intro w'
                  go_simp
                  with_reducible rfl
                rotate_left
                · simp only [Act.put, List.setIfInBounds_toArray, List.set_cons_zero, List.set_cons_succ, i64_w, i32_w]
                  rfl
                exact norm_ (by simp only [putAll, Act.put, List.setIfInBounds_toArray, List.set_cons_zero, List.set_cons_succ]) (hCont () _ ⟨(by repeat (first | exact Below.refl we.heap.size we | apply below_alloc | apply pw_below_drewN)), (show (((we.drewN (n2 + n5 + n9 + n15 + n19)).alloc (.cells #[.int .u64 0, .int .i64 0, .int .i64 0, .bool false, .int .i64 0, .int .i64 0, .int .i64 0, .slice none 0 0] 88)).drewN n23).heap[we.heap.size]? = some (.cells #[.int .u64 0, .int .i64 0, .int .i64 0, .bool false, .int .i64 0, .int .i64 0, .int .i64 0, .slice none 0 0] 88 (0, 0)) from heap_alloc_new _ _)⟩)
            · skip
              refine value_ (w1 := ?_) (v := ?_) (by rfl) rfl ?_ ?_
              rotate_left 2
              · go_simp
                constructor
                · rfl
                · rfl
              refine hK.out _ _ trivial (fun hHeld => ?_)
              clear hK K
              refine norm_ (a' := ?_) ?_ ?_
              rotate_left
              · show Act.put _ (some 5) _ = _
                simp only [Act.put, List.setIfInBounds_toArray, List.set_cons_zero, List.set_cons_succ, i64_w, i32_w]
                rfl
              refine one_ (i := 19) (N := some 57) #[true, true, true, true, true, true, true, true, true, true, true, true, true, true, true, true, true, true, true, true, false, true, true, false, false, false, true, true, false, true, false] rfl rfl (by kernel_rfl) (by decide) (fun K hK => ?_)
              refine goes_ Try.func90 (by kernel_rfl) rfl #[.slice A36 b36.length (c - 36), .int .i64 8] (by rfl) rfl rfl (by simp only [List.map_toArray, List.map_cons, List.map_nil]; rfl) ?_
              with_reducible refine ((H36.out ((we.drewN (n2 + n5 + n9 + n15)).alloc (.cells #[.int .u64 0, .int .i64 0, .int .i64 0, .bool false, .int .i64 0, .int .i64 0, .int .i64 0, .slice none 0 0] 88)) (by repeat (first | exact HBe.out | apply below_alloc | apply pw_below_drewN)))).mono ?_
              rintro e u19 ⟨rfl, ⟨n19, rfl⟩⟩
              refine ⟨_, rfl, ?_⟩
              refine hK.out _ _ trivial (fun hHeld => ?_)
              clear hK K
              refine norm_ (a' := ?_) ?_ ?_
              rotate_left
              · show Act.put _ (some 57) _ = _
                simp only [Act.put, List.setIfInBounds_toArray, List.set_cons_zero, List.set_cons_succ, i64_w, i32_w]
                rfl
              refine pure_ (i := 20) (N := some 58) (v := ?_) (a' := ?_) #[true, true, true, true, true, true, true, true, true, true, true, true, true, true, true, true, true, true, true, true, true, true, true, false, false, false, true, true, false, true, false] rfl rfl (by kernel_rfl) (fun _ _ _ h => h) (Or.inl ⟨by rfl, ?_⟩) ?_ ?_
              rotate_left
              · intro w'
                go_simp
                with_reducible rfl
              rotate_left
              · simp only [Act.put, List.setIfInBounds_toArray, List.set_cons_zero, List.set_cons_succ, i64_w, i32_w]
                rfl
              refine one_ (i := 23) (N := some 61) #[true, true, true, true, true, true, true, true, true, true, true, true, true, true, true, true, true, true, true, true, true, true, true, true, false, false, true, true, false, true, false] rfl rfl (by kernel_rfl) (by decide) (fun K hK => ?_)
              refine goes_ Try.func90 (by kernel_rfl) rfl #[.slice A44 b44.length (c - 44), .int .i64 8] (by rfl) rfl rfl (by simp only [List.map_toArray, List.map_cons, List.map_nil]; rfl) ?_
              with_reducible refine ((H44.out (((we.drewN (n2 + n5 + n9 + n15)).alloc (.cells #[.int .u64 0, .int .i64 0, .int .i64 0, .bool false, .int .i64 0, .int .i64 0, .int .i64 0, .slice none 0 0] 88)).drewN n19) (by repeat (first | exact HBe.out | apply below_alloc | apply pw_below_drewN)))).mono ?_
              rintro e u23 ⟨rfl, ⟨n23, rfl⟩⟩
              refine ⟨_, rfl, ?_⟩
              refine hK.out _ _ trivial (fun hHeld => ?_)
              clear hK K
              refine norm_ (a' := ?_) ?_ ?_
              rotate_left
              · show Act.put _ (some 61) _ = _
                simp only [Act.put, List.setIfInBounds_toArray, List.set_cons_zero, List.set_cons_succ, i64_w, i32_w]
                rfl
              refine pure_ (i := 24) (N := some 62) (v := ?_) (a' := ?_) #[true, true, true, true, true, true, true, true, true, true, true, true, true, true, true, true, true, true, true, true, true, true, true, true, true, false, true, true, false, true, false] rfl rfl (by kernel_rfl) (fun _ _ _ h => h) (Or.inl ⟨by rfl, ?_⟩) ?_ ?_
              rotate_left
              · intro w'
                go_simp
                with_reducible rfl
              rotate_left
              · simp only [Act.put, List.setIfInBounds_toArray, List.set_cons_zero, List.set_cons_succ, i64_w, i32_w]
                rfl
              refine pure_ (i := 25) (N := some 63) (v := ?_) (a' := ?_) #[true, true, true, true, true, true, true, true, true, true, true, true, true, true, true, true, true, true, true, true, true, true, true, true, true, true, true, true, false, true, false] rfl rfl (by kernel_rfl) (fun _ _ _ h => h) (Or.inl ⟨by rfl, ?_⟩) ?_ ?_
              rotate_left
              · intro w'
                go_simp
                with_reducible rfl
              rotate_left
              · simp only [Act.put, List.setIfInBounds_toArray, List.set_cons_zero, List.set_cons_succ, i64_w, i32_w]
                rfl
              refine pure_ (i := 28) (N := some 66) (v := ?_) (a' := ?_) #[true, true, true, true, true, true, true, true, true, true, true, true, true, true, true, true, true, true, true, true, true, true, true, true, true, true, true, true, true, true, false] rfl rfl (by kernel_rfl) (fun _ _ _ h => h) (Or.inl ⟨by rfl, ?_⟩) ?_ ?_
              rotate_left
              · intro w'
                go_simp
                with_reducible rfl
              rotate_left
              · simp only [Act.put, List.setIfInBounds_toArray, List.set_cons_zero, List.set_cons_succ, i64_w, i32_w]
                rfl
              exact norm_ (by simp only [putAll, Act.put, List.setIfInBounds_toArray, List.set_cons_zero, List.set_cons_succ]) (hCont () _ ⟨(by repeat (first | exact Below.refl we.heap.size we | apply below_alloc | apply pw_below_drewN)), (show ((((we.drewN (n2 + n5 + n9 + n15)).alloc (.cells #[.int .u64 0, .int .i64 0, .int .i64 0, .bool false, .int .i64 0, .int .i64 0, .int .i64 0, .slice none 0 0] 88)).drewN n19).drewN n23).heap[we.heap.size]? = some (.cells #[.int .u64 0, .int .i64 0, .int .i64 0, .bool false, .int .i64 0, .int .i64 0, .int .i64 0, .slice none 0 0] 88 (0, 0)) from heap_alloc_new _ _)⟩)
          · skip
            refine value_ (w1 := ?_) (v := ?_) (by rfl) rfl ?_ ?_
            rotate_left 2
            · go_simp
              constructor
              · rfl
              · rfl
            refine hK.out _ _ trivial (fun hHeld => ?_)
            clear hK K
            refine norm_ (a' := ?_) ?_ ?_
            rotate_left
            · show Act.put _ (some 5) _ = _
              simp only [Act.put, List.setIfInBounds_toArray, List.set_cons_zero, List.set_cons_succ, i64_w, i32_w]
              rfl
            refine one_ (i := 15) (N := some 53) #[true, true, true, true, true, true, true, true, true, true, true, true, true, true, true, true, false, true, true, false, false, true, true, false, false, false, true, true, false, true, false] rfl rfl (by kernel_rfl) (by decide) (fun K hK => ?_)
            refine goes_ Try.func90 (by kernel_rfl) rfl #[.slice A28 b28.length (c - 28), .int .i64 8] (by rfl) rfl rfl (by simp only [List.map_toArray, List.map_cons, List.map_nil]; rfl) ?_
            with_reducible refine ((H28.out ((we.drewN (n2 + n5 + n9)).alloc (.cells #[.int .u64 0, .int .i64 0, .int .i64 0, .bool false, .int .i64 0, .int .i64 0, .int .i64 0, .slice none 0 0] 88)) (by repeat (first | exact HBe.out | apply below_alloc | apply pw_below_drewN)))).mono ?_
            rintro e u15 ⟨rfl, ⟨n15, rfl⟩⟩
            refine ⟨_, rfl, ?_⟩
            refine hK.out _ _ trivial (fun hHeld => ?_)
            clear hK K
            refine norm_ (a' := ?_) ?_ ?_
            rotate_left
            · show Act.put _ (some 53) _ = _
              simp only [Act.put, List.setIfInBounds_toArray, List.set_cons_zero, List.set_cons_succ, i64_w, i32_w]
              rfl
            refine pure_ (i := 16) (N := some 54) (v := ?_) (a' := ?_) #[true, true, true, true, true, true, true, true, true, true, true, true, true, true, true, true, true, true, true, false, false, true, true, false, false, false, true, true, false, true, false] rfl rfl (by kernel_rfl) (fun _ _ _ h => h) (Or.inl ⟨by rfl, ?_⟩) ?_ ?_
            rotate_left
            · intro w'
              go_simp
              with_reducible rfl
            rotate_left
            · simp only [Act.put, List.setIfInBounds_toArray, List.set_cons_zero, List.set_cons_succ, i64_w, i32_w]
              rfl
            refine one_ (i := 19) (N := some 57) #[true, true, true, true, true, true, true, true, true, true, true, true, true, true, true, true, true, true, true, true, false, true, true, false, false, false, true, true, false, true, false] rfl rfl (by kernel_rfl) (by decide) (fun K hK => ?_)
            refine goes_ Try.func90 (by kernel_rfl) rfl #[.slice A36 b36.length (c - 36), .int .i64 8] (by rfl) rfl rfl (by simp only [List.map_toArray, List.map_cons, List.map_nil]; rfl) ?_
            with_reducible refine ((H36.out (((we.drewN (n2 + n5 + n9)).alloc (.cells #[.int .u64 0, .int .i64 0, .int .i64 0, .bool false, .int .i64 0, .int .i64 0, .int .i64 0, .slice none 0 0] 88)).drewN n15) (by repeat (first | exact HBe.out | apply below_alloc | apply pw_below_drewN)))).mono ?_
            rintro e u19 ⟨rfl, ⟨n19, rfl⟩⟩
            refine ⟨_, rfl, ?_⟩
            refine hK.out _ _ trivial (fun hHeld => ?_)
            clear hK K
            refine norm_ (a' := ?_) ?_ ?_
            rotate_left
            · show Act.put _ (some 57) _ = _
              simp only [Act.put, List.setIfInBounds_toArray, List.set_cons_zero, List.set_cons_succ, i64_w, i32_w]
              rfl
            refine pure_ (i := 20) (N := some 58) (v := ?_) (a' := ?_) #[true, true, true, true, true, true, true, true, true, true, true, true, true, true, true, true, true, true, true, true, true, true, true, false, false, false, true, true, false, true, false] rfl rfl (by kernel_rfl) (fun _ _ _ h => h) (Or.inl ⟨by rfl, ?_⟩) ?_ ?_
            rotate_left
            · intro w'
              go_simp
              with_reducible rfl
            rotate_left
            · simp only [Act.put, List.setIfInBounds_toArray, List.set_cons_zero, List.set_cons_succ, i64_w, i32_w]
              rfl
            refine one_ (i := 23) (N := some 61) #[true, true, true, true, true, true, true, true, true, true, true, true, true, true, true, true, true, true, true, true, true, true, true, true, false, false, true, true, false, true, false] rfl rfl (by kernel_rfl) (by decide) (fun K hK => ?_)
            refine goes_ Try.func90 (by kernel_rfl) rfl #[.slice A44 b44.length (c - 44), .int .i64 8] (by rfl) rfl rfl (by simp only [List.map_toArray, List.map_cons, List.map_nil]; rfl) ?_
            with_reducible refine ((H44.out ((((we.drewN (n2 + n5 + n9)).alloc (.cells #[.int .u64 0, .int .i64 0, .int .i64 0, .bool false, .int .i64 0, .int .i64 0, .int .i64 0, .slice none 0 0] 88)).drewN n15).drewN n19) (by repeat (first | exact HBe.out | apply below_alloc | apply pw_below_drewN)))).mono ?_
            rintro e u23 ⟨rfl, ⟨n23, rfl⟩⟩
            refine ⟨_, rfl, ?_⟩
            refine hK.out _ _ trivial (fun hHeld => ?_)
            clear hK K
            refine norm_ (a' := ?_) ?_ ?_
            rotate_left
            · show Act.put _ (some 61) _ = _
              simp only [Act.put, List.setIfInBounds_toArray, List.set_cons_zero, List.set_cons_succ, i64_w, i32_w]
              rfl
            refine pure_ (i := 24) (N := some 62) (v := ?_) (a' := ?_) #[true, true, true, true, true, true, true, true, true, true, true, true, true, true, true, true, true, true, true, true, true, true, true, true, true, false, true, true, false, true, false] rfl rfl (by kernel_rfl) (fun _ _ _ h => h) (Or.inl ⟨by rfl, ?_⟩) ?_ ?_
            rotate_left
            · intro w'
              go_simp
              with_reducible rfl
            rotate_left
            · simp only [Act.put, List.setIfInBounds_toArray, List.set_cons_zero, List.set_cons_succ, i64_w, i32_w]
              rfl
            refine pure_ (i := 25) (N := some 63) (v := ?_) (a' := ?_) #[true, true, true, true, true, true, true, true, true, true, true, true, true, true, true, true, true, true, true, true, true, true, true, true, true, true, true, true, false, true, false] rfl rfl (by kernel_rfl) (fun _ _ _ h => h) (Or.inl ⟨by rfl, ?_⟩) ?_ ?_
            rotate_left
            · intro w'
              go_simp
              with_reducible rfl
            rotate_left
            · simp only [Act.put, List.setIfInBounds_toArray, List.set_cons_zero, List.set_cons_succ, i64_w, i32_w]
              rfl
            refine pure_ (i := 28) (N := some 66) (v := ?_) (a' := ?_) #[true, true, true, true, true, true, true, true, true, true, true, true, true, true, true, true, true, true, true, true, true, true, true, true, true, true, true, true, true, true, false] rfl rfl (by kernel_rfl) (fun _ _ _ h => h) (Or.inl ⟨by rfl, ?_⟩) ?_ ?_
            rotate_left
            · intro w'
              go_simp
              with_reducible rfl
            rotate_left
            · simp only [Act.put, List.setIfInBounds_toArray, List.set_cons_zero, List.set_cons_succ, i64_w, i32_w]
              rfl
            exact norm_ (by simp only [putAll, Act.put, List.setIfInBounds_toArray, List.set_cons_zero, List.set_cons_succ]) (hCont () _ ⟨(by repeat (first | exact Below.refl we.heap.size we | apply below_alloc | apply pw_below_drewN)), (show (((((we.drewN (n2 + n5 + n9)).alloc (.cells #[.int .u64 0, .int .i64 0, .int .i64 0, .bool false, .int .i64 0, .int .i64 0, .int .i64 0, .slice none 0 0] 88)).drewN n15).drewN n19).drewN n23).heap[we.heap.size]? = some (.cells #[.int .u64 0, .int .i64 0, .int .i64 0, .bool false, .int .i64 0, .int .i64 0, .int .i64 0, .slice none 0 0] 88 (0, 0)) from heap_alloc_new _ _)⟩)
        · skip
          refine value_ (w1 := ?_) (v := ?_) (by rfl) rfl ?_ ?_
          rotate_left 2
          · go_simp
            constructor
            · rfl
            · rfl
          refine hK.out _ _ trivial (fun hHeld => ?_)
          clear hK K
          refine norm_ (a' := ?_) ?_ ?_
          rotate_left
          · show Act.put _ (some 5) _ = _
            simp only [Act.put, List.setIfInBounds_toArray, List.set_cons_zero, List.set_cons_succ, i64_w, i32_w]
            rfl
          refine one_ (i := 9) (N := some 47) #[true, true, true, true, true, true, true, true, true, true, false, true, true, true, true, false, false, true, true, false, false, true, true, false, false, false, true, true, false, true, false] rfl rfl (by kernel_rfl) (by decide) (fun K hK => ?_)
          refine goes_ Try.func90 (by kernel_rfl) rfl #[.slice A20 b20.length (c - 20), .int .i64 4] (by rfl) rfl rfl (by simp only [List.map_toArray, List.map_cons, List.map_nil]; rfl) ?_
          with_reducible refine ((H20.out ((we.drewN (n2 + n5)).alloc (.cells #[.int .u64 0, .int .i64 0, .int .i64 0, .bool false, .int .i64 0, .int .i64 0, .int .i64 0, .slice none 0 0] 88)) (by repeat (first | exact HBe.out | apply below_alloc | apply pw_below_drewN)))).mono ?_
          rintro e u9 ⟨rfl, ⟨n9, rfl⟩⟩
          refine ⟨_, rfl, ?_⟩
          refine hK.out _ _ trivial (fun hHeld => ?_)
          clear hK K
          refine norm_ (a' := ?_) ?_ ?_
          rotate_left
          · show Act.put _ (some 47) _ = _
            simp only [Act.put, List.setIfInBounds_toArray, List.set_cons_zero, List.set_cons_succ, i64_w, i32_w]
            rfl
          refine pure_ (i := 10) (N := some 48) (v := ?_) (a' := ?_) #[true, true, true, true, true, true, true, true, true, true, true, true, true, true, true, false, false, true, true, false, false, true, true, false, false, false, true, true, false, true, false] rfl rfl (by kernel_rfl) (fun _ _ _ h => h) (Or.inl ⟨by rfl, ?_⟩) ?_ ?_
          rotate_left
          · intro w'
            go_simp
            with_reducible rfl
          rotate_left
          · simp only [Act.put, List.setIfInBounds_toArray, List.set_cons_zero, List.set_cons_succ, i64_w, i32_w]
            rfl
          refine one_ (i := 15) (N := some 53) #[true, true, true, true, true, true, true, true, true, true, true, true, true, true, true, true, false, true, true, false, false, true, true, false, false, false, true, true, false, true, false] rfl rfl (by kernel_rfl) (by decide) (fun K hK => ?_)
          refine goes_ Try.func90 (by kernel_rfl) rfl #[.slice A28 b28.length (c - 28), .int .i64 8] (by rfl) rfl rfl (by simp only [List.map_toArray, List.map_cons, List.map_nil]; rfl) ?_
          with_reducible refine ((H28.out (((we.drewN (n2 + n5)).alloc (.cells #[.int .u64 0, .int .i64 0, .int .i64 0, .bool false, .int .i64 0, .int .i64 0, .int .i64 0, .slice none 0 0] 88)).drewN n9) (by repeat (first | exact HBe.out | apply below_alloc | apply pw_below_drewN)))).mono ?_
          rintro e u15 ⟨rfl, ⟨n15, rfl⟩⟩
          refine ⟨_, rfl, ?_⟩
          refine hK.out _ _ trivial (fun hHeld => ?_)
          clear hK K
          refine norm_ (a' := ?_) ?_ ?_
          rotate_left
          · show Act.put _ (some 53) _ = _
            simp only [Act.put, List.setIfInBounds_toArray, List.set_cons_zero, List.set_cons_succ, i64_w, i32_w]
            rfl
          refine pure_ (i := 16) (N := some 54) (v := ?_) (a' := ?_) #[true, true, true, true, true, true, true, true, true, true, true, true, true, true, true, true, true, true, true, false, false, true, true, false, false, false, true, true, false, true, false] rfl rfl (by kernel_rfl) (fun _ _ _ h => h) (Or.inl ⟨by rfl, ?_⟩) ?_ ?_
          rotate_left
          · intro w'
            go_simp
            with_reducible rfl
          rotate_left
          · simp only [Act.put, List.setIfInBounds_toArray, List.set_cons_zero, List.set_cons_succ, i64_w, i32_w]
            rfl
          refine one_ (i := 19) (N := some 57) #[true, true, true, true, true, true, true, true, true, true, true, true, true, true, true, true, true, true, true, true, false, true, true, false, false, false, true, true, false, true, false] rfl rfl (by kernel_rfl) (by decide) (fun K hK => ?_)
          refine goes_ Try.func90 (by kernel_rfl) rfl #[.slice A36 b36.length (c - 36), .int .i64 8] (by rfl) rfl rfl (by simp only [List.map_toArray, List.map_cons, List.map_nil]; rfl) ?_
          with_reducible refine ((H36.out ((((we.drewN (n2 + n5)).alloc (.cells #[.int .u64 0, .int .i64 0, .int .i64 0, .bool false, .int .i64 0, .int .i64 0, .int .i64 0, .slice none 0 0] 88)).drewN n9).drewN n15) (by repeat (first | exact HBe.out | apply below_alloc | apply pw_below_drewN)))).mono ?_
          rintro e u19 ⟨rfl, ⟨n19, rfl⟩⟩
          refine ⟨_, rfl, ?_⟩
          refine hK.out _ _ trivial (fun hHeld => ?_)
          clear hK K
          refine norm_ (a' := ?_) ?_ ?_
          rotate_left
          · show Act.put _ (some 57) _ = _
            simp only [Act.put, List.setIfInBounds_toArray, List.set_cons_zero, List.set_cons_succ, i64_w, i32_w]
            rfl
          refine pure_ (i := 20) (N := some 58) (v := ?_) (a' := ?_) #[true, true, true, true, true, true, true, true, true, true, true, true, true, true, true, true, true, true, true, true, true, true, true, false, false, false, true, true, false, true, false] rfl rfl (by kernel_rfl) (fun _ _ _ h => h) (Or.inl ⟨by rfl, ?_⟩) ?_ ?_
          rotate_left
          · intro w'
            go_simp
            with_reducible rfl
          rotate_left
          · simp only [Act.put, List.setIfInBounds_toArray, List.set_cons_zero, List.set_cons_succ, i64_w, i32_w]
            rfl
          refine one_ (i := 23) (N := some 61) #[true, true, true, true, true, true, true, true, true, true, true, true, true, true, true, true, true, true, true, true, true, true, true, true, false, false, true, true, false, true, false] rfl rfl (by kernel_rfl) (by decide) (fun K hK => ?_)
          refine goes_ Try.func90 (by kernel_rfl) rfl #[.slice A44 b44.length (c - 44), .int .i64 8] (by rfl) rfl rfl (by simp only [List.map_toArray, List.map_cons, List.map_nil]; rfl) ?_
          with_reducible refine ((H44.out (((((we.drewN (n2 + n5)).alloc (.cells #[.int .u64 0, .int .i64 0, .int .i64 0, .bool false, .int .i64 0, .int .i64 0, .int .i64 0, .slice none 0 0] 88)).drewN n9).drewN n15).drewN n19) (by repeat (first | exact HBe.out | apply below_alloc | apply pw_below_drewN)))).mono ?_
          rintro e u23 ⟨rfl, ⟨n23, rfl⟩⟩
          refine ⟨_, rfl, ?_⟩
          refine hK.out _ _ trivial (fun hHeld => ?_)
          clear hK K
          refine norm_ (a' := ?_) ?_ ?_
          rotate_left
          · show Act.put _ (some 61) _ = _
            simp only [Act.put, List.setIfInBounds_toArray, List.set_cons_zero, List.set_cons_succ, i64_w, i32_w]
            rfl
          refine pure_ (i := 24) (N := some 62) (v := ?_) (a' := ?_) #[true, true, true, true, true, true, true, true, true, true, true, true, true, true, true, true, true, true, true, true, true, true, true, true, true, false, true, true, false, true, false] rfl rfl (by kernel_rfl) (fun _ _ _ h => h) (Or.inl ⟨by rfl, ?_⟩) ?_ ?_
          rotate_left
          · intro w'
            go_simp
            with_reducible rfl
          rotate_left
          · simp only [Act.put, List.setIfInBounds_toArray, List.set_cons_zero, List.set_cons_succ, i64_w, i32_w]
            rfl
          refine pure_ (i := 25) (N := some 63) (v := ?_) (a' := ?_) #[true, true, true, true, true, true, true, true, true, true, true, true, true, true, true, true, true, true, true, true, true, true, true, true, true, true, true, true, false, true, false] rfl rfl (by kernel_rfl) (fun _ _ _ h => h) (Or.inl ⟨by rfl, ?_⟩) ?_ ?_
          rotate_left
          · intro w'
            go_simp
            with_reducible rfl
          rotate_left
          · simp only [Act.put, List.setIfInBounds_toArray, List.set_cons_zero, List.set_cons_succ, i64_w, i32_w]
            rfl
          refine pure_ (i := 28) (N := some 66) (v := ?_) (a' := ?_) #[true, true, true, true, true, true, true, true, true, true, true, true, true, true, true, true, true, true, true, true, true, true, true, true, true, true, true, true, true, true, false] rfl rfl (by kernel_rfl) (fun _ _ _ h => h) (Or.inl ⟨by rfl, ?_⟩) ?_ ?_
          rotate_left
          · intro w'
            go_simp
            with_reducible rfl
          rotate_left
          · simp only [Act.put, List.setIfInBounds_toArray, List.set_cons_zero, List.set_cons_succ, i64_w, i32_w]
            rfl
          exact norm_ (by simp only [putAll, Act.put, List.setIfInBounds_toArray, List.set_cons_zero, List.set_cons_succ]) (hCont () _ ⟨(by repeat (first | exact Below.refl we.heap.size we | apply below_alloc | apply pw_below_drewN)), (show ((((((we.drewN (n2 + n5)).alloc (.cells #[.int .u64 0, .int .i64 0, .int .i64 0, .bool false, .int .i64 0, .int .i64 0, .int .i64 0, .slice none 0 0] 88)).drewN n9).drewN n15).drewN n19).drewN n23).heap[we.heap.size]? = some (.cells #[.int .u64 0, .int .i64 0, .int .i64 0, .bool false, .int .i64 0, .int .i64 0, .int .i64 0, .slice none 0 0] 88 (0, 0)) from heap_alloc_new _ _)⟩)
      · skip
        refine value_ (w1 := ?_) (v := ?_) (by rfl) rfl ?_ ?_
        rotate_left 2
        · go_simp
          constructor
          · rfl
          · rfl
        refine hK.out _ _ trivial (fun hHeld => ?_)
        clear hK K
        refine norm_ (a' := ?_) ?_ ?_
        rotate_left
        · show Act.put _ (some 5) _ = _
          simp only [Act.put, List.setIfInBounds_toArray, List.set_cons_zero, List.set_cons_succ, i64_w, i32_w]
          rfl
        refine one_ (i := 5) (N := some 43) #[true, true, true, true, true, true, false, true, true, false, false, true, true, true, true, false, false, true, true, false, false, true, true, false, false, false, true, true, false, true, false] rfl rfl (by kernel_rfl) (by decide) (fun K hK => ?_)
        refine goes_ Try.func90 (by kernel_rfl) rfl #[.slice A16 b16.length (c - 16), .int .i64 4] (by rfl) rfl rfl (by simp only [List.map_toArray, List.map_cons, List.map_nil]; rfl) ?_
        with_reducible refine ((H16.out ((we.drewN n2).alloc (.cells #[.int .u64 0, .int .i64 0, .int .i64 0, .bool false, .int .i64 0, .int .i64 0, .int .i64 0, .slice none 0 0] 88)) (by repeat (first | exact HBe.out | apply below_alloc | apply pw_below_drewN)))).mono ?_
        rintro e u5 ⟨rfl, ⟨n5, rfl⟩⟩
        refine ⟨_, rfl, ?_⟩
        refine hK.out _ _ trivial (fun hHeld => ?_)
        clear hK K
        refine norm_ (a' := ?_) ?_ ?_
        rotate_left
        · show Act.put _ (some 43) _ = _
          simp only [Act.put, List.setIfInBounds_toArray, List.set_cons_zero, List.set_cons_succ, i64_w, i32_w]
          rfl
        refine pure_ (i := 6) (N := some 44) (v := ?_) (a' := ?_) #[true, true, true, true, true, true, true, true, true, false, false, true, true, true, true, false, false, true, true, false, false, true, true, false, false, false, true, true, false, true, false] rfl rfl (by kernel_rfl) (fun _ _ _ h => h) (Or.inl ⟨by rfl, ?_⟩) ?_ ?_
        rotate_left
        · intro w'
          go_simp
          with_reducible rfl
        rotate_left
        · simp only [Act.put, List.setIfInBounds_toArray, List.set_cons_zero, List.set_cons_succ, i64_w, i32_w]
          rfl
        refine one_ (i := 9) (N := some 47) #[true, true, true, true, true, true, true, true, true, true, false, true, true, true, true, false, false, true, true, false, false, true, true, false, false, false, true, true, false, true, false] rfl rfl (by kernel_rfl) (by decide) (fun K hK => ?_)
        refine goes_ Try.func90 (by kernel_rfl) rfl #[.slice A20 b20.length (c - 20), .int .i64 4] (by rfl) rfl rfl (by simp only [List.map_toArray, List.map_cons, List.map_nil]; rfl) ?_
        with_reducible refine ((H20.out (((we.drewN n2).alloc (.cells #[.int .u64 0, .int .i64 0, .int .i64 0, .bool false, .int .i64 0, .int .i64 0, .int .i64 0, .slice none 0 0] 88)).drewN n5) (by repeat (first | exact HBe.out | apply below_alloc | apply pw_below_drewN)))).mono ?_
        rintro e u9 ⟨rfl, ⟨n9, rfl⟩⟩
        refine ⟨_, rfl, ?_⟩
        refine hK.out _ _ trivial (fun hHeld => ?_)
        clear hK K
        refine norm_ (a' := ?_) ?_ ?_
        rotate_left
        · show Act.put _ (some 47) _ = _
          simp only [Act.put, List.setIfInBounds_toArray, List.set_cons_zero, List.set_cons_succ, i64_w, i32_w]
          rfl
        refine pure_ (i := 10) (N := some 48) (v := ?_) (a' := ?_) #[true, true, true, true, true, true, true, true, true, true, true, true, true, true, true, false, false, true, true, false, false, true, true, false, false, false, true, true, false, true, false] rfl rfl (by kernel_rfl) (fun _ _ _ h => h) (Or.inl ⟨by rfl, ?_⟩) ?_ ?_
        rotate_left
        · intro w'
          go_simp
          with_reducible rfl
        rotate_left
        · simp only [Act.put, List.setIfInBounds_toArray, List.set_cons_zero, List.set_cons_succ, i64_w, i32_w]
          rfl
        refine one_ (i := 15) (N := some 53) #[true, true, true, true, true, true, true, true, true, true, true, true, true, true, true, true, false, true, true, false, false, true, true, false, false, false, true, true, false, true, false] rfl rfl (by kernel_rfl) (by decide) (fun K hK => ?_)
        refine goes_ Try.func90 (by kernel_rfl) rfl #[.slice A28 b28.length (c - 28), .int .i64 8] (by rfl) rfl rfl (by simp only [List.map_toArray, List.map_cons, List.map_nil]; rfl) ?_
        with_reducible refine ((H28.out ((((we.drewN n2).alloc (.cells #[.int .u64 0, .int .i64 0, .int .i64 0, .bool false, .int .i64 0, .int .i64 0, .int .i64 0, .slice none 0 0] 88)).drewN n5).drewN n9) (by repeat (first | exact HBe.out | apply below_alloc | apply pw_below_drewN)))).mono ?_
        rintro e u15 ⟨rfl, ⟨n15, rfl⟩⟩
        refine ⟨_, rfl, ?_⟩
        refine hK.out _ _ trivial (fun hHeld => ?_)
        clear hK K
        refine norm_ (a' := ?_) ?_ ?_
        rotate_left
        · show Act.put _ (some 53) _ = _
          simp only [Act.put, List.setIfInBounds_toArray, List.set_cons_zero, List.set_cons_succ, i64_w, i32_w]
          rfl
        refine pure_ (i := 16) (N := some 54) (v := ?_) (a' := ?_) #[true, true, true, true, true, true, true, true, true, true, true, true, true, true, true, true, true, true, true, false, false, true, true, false, false, false, true, true, false, true, false] rfl rfl (by kernel_rfl) (fun _ _ _ h => h) (Or.inl ⟨by rfl, ?_⟩) ?_ ?_
        rotate_left
        · intro w'
          go_simp
          with_reducible rfl
        rotate_left
        · simp only [Act.put, List.setIfInBounds_toArray, List.set_cons_zero, List.set_cons_succ, i64_w, i32_w]
          rfl
        refine one_ (i := 19) (N := some 57) #[true, true, true, true, true, true, true, true, true, true, true, true, true, true, true, true, true, true, true, true, false, true, true, false, false, false, true, true, false, true, false] rfl rfl (by kernel_rfl) (by decide) (fun K hK => ?_)
        refine goes_ Try.func90 (by kernel_rfl) rfl #[.slice A36 b36.length (c - 36), .int .i64 8] (by rfl) rfl rfl (by simp only [List.map_toArray, List.map_cons, List.map_nil]; rfl) ?_
        with_reducible refine ((H36.out (((((we.drewN n2).alloc (.cells #[.int .u64 0, .int .i64 0, .int .i64 0, .bool false, .int .i64 0, .int .i64 0, .int .i64 0, .slice none 0 0] 88)).drewN n5).drewN n9).drewN n15) (by repeat (first | exact HBe.out | apply below_alloc | apply pw_below_drewN)))).mono ?_
        rintro e u19 ⟨rfl, ⟨n19, rfl⟩⟩
        refine ⟨_, rfl, ?_⟩
        refine hK.out _ _ trivial (fun hHeld => ?_)
        clear hK K
        refine norm_ (a' := ?_) ?_ ?_
        rotate_left
        · show Act.put _ (some 57) _ = _
          simp only [Act.put, List.setIfInBounds_toArray, List.set_cons_zero, List.set_cons_succ, i64_w, i32_w]
          rfl
        refine pure_ (i := 20) (N := some 58) (v := ?_) (a' := ?_) #[true, true, true, true, true, true, true, true, true, true, true, true, true, true, true, true, true, true, true, true, true, true, true, false, false, false, true, true, false, true, false] rfl rfl (by kernel_rfl) (fun _ _ _ h => h) (Or.inl ⟨by rfl, ?_⟩) ?_ ?_
        rotate_left
        · intro w'
          go_simp
          with_reducible rfl
        rotate_left
        · simp only [Act.put, List.setIfInBounds_toArray, List.set_cons_zero, List.set_cons_succ, i64_w, i32_w]
          rfl
        refine one_ (i := 23) (N := some 61) #[true, true, true, true, true, true, true, true, true, true, true, true, true, true, true, true, true, true, true, true, true, true, true, true, false, false, true, true, false, true, false] rfl rfl (by kernel_rfl) (by decide) (fun K hK => ?_)
        refine goes_ Try.func90 (by kernel_rfl) rfl #[.slice A44 b44.length (c - 44), .int .i64 8] (by rfl) rfl rfl (by simp only [List.map_toArray, List.map_cons, List.map_nil]; rfl) ?_
        with_reducible refine ((H44.out ((((((we.drewN n2).alloc (.cells #[.int .u64 0, .int .i64 0, .int .i64 0, .bool false, .int .i64 0, .int .i64 0, .int .i64 0, .slice none 0 0] 88)).drewN n5).drewN n9).drewN n15).drewN n19) (by repeat (first | exact HBe.out | apply below_alloc | apply pw_below_drewN)))).mono ?_
        rintro e u23 ⟨rfl, ⟨n23, rfl⟩⟩
        refine ⟨_, rfl, ?_⟩
        refine hK.out _ _ trivial (fun hHeld => ?_)
        clear hK K
        refine norm_ (a' := ?_) ?_ ?_
        rotate_left
        · show Act.put _ (some 61) _ = _
          simp only [Act.put, List.setIfInBounds_toArray, List.set_cons_zero, List.set_cons_succ, i64_w, i32_w]
          rfl
        refine pure_ (i := 24) (N := some 62) (v := ?_) (a' := ?_) #[true, true, true, true, true, true, true, true, true, true, true, true, true, true, true, true, true, true, true, true, true, true, true, true, true, false, true, true, false, true, false] rfl rfl (by kernel_rfl) (fun _ _ _ h => h) (Or.inl ⟨by rfl, ?_⟩) ?_ ?_
        rotate_left
        · intro w'
          go_simp
          with_reducible rfl
        rotate_left
        · simp only [Act.put, List.setIfInBounds_toArray, List.set_cons_zero, List.set_cons_succ, i64_w, i32_w]
          rfl
        refine pure_ (i := 25) (N := some 63) (v := ?_) (a' := ?_) #[true, true, true, true, true, true, true, true, true, true, true, true, true, true, true, true, true, true, true, true, true, true, true, true, true, true, true, true, false, true, false] rfl rfl (by kernel_rfl) (fun _ _ _ h => h) (Or.inl ⟨by rfl, ?_⟩) ?_ ?_
        rotate_left
        · intro w'
          go_simp
          with_reducible rfl
        rotate_left
        · simp only [Act.put, List.setIfInBounds_toArray, List.set_cons_zero, List.set_cons_succ, i64_w, i32_w]
          rfl
        refine pure_ (i := 28) (N := some 66) (v := ?_) (a' := ?_) #[true, true, true, true, true, true, true, true, true, true, true, true, true, true, true, true, true, true, true, true, true, true, true, true, true, true, true, true, true, true, false] rfl rfl (by kernel_rfl) (fun _ _ _ h => h) (Or.inl ⟨by rfl, ?_⟩) ?_ ?_
        rotate_left
        · intro w'
          go_simp
          with_reducible rfl
        rotate_left
        · simp only [Act.put, List.setIfInBounds_toArray, List.set_cons_zero, List.set_cons_succ, i64_w, i32_w]
          rfl
        exact norm_ (by simp only [putAll, Act.put, List.setIfInBounds_toArray, List.set_cons_zero, List.set_cons_succ]) (hCont () _ ⟨(by repeat (first | exact Below.refl we.heap.size we | apply below_alloc | apply pw_below_drewN)), (show (((((((we.drewN n2).alloc (.cells #[.int .u64 0, .int .i64 0, .int .i64 0, .bool false, .int .i64 0, .int .i64 0, .int .i64 0, .slice none 0 0] 88)).drewN n5).drewN n9).drewN n15).drewN n19).drewN n23).heap[we.heap.size]? = some (.cells #[.int .u64 0, .int .i64 0, .int .i64 0, .bool false, .int .i64 0, .int .i64 0, .int .i64 0, .slice none 0 0] 88 (0, 0)) from heap_alloc_new _ _)⟩)
    · skip
      refine value_ (w1 := ?_) (v := ?_) (by rfl) rfl ?_ ?_
      rotate_left 2
      · go_simp
        constructor
        · rfl
        · rfl
      refine hK.out _ _ trivial (fun hHeld => ?_)
      clear hK K
      refine norm_ (a' := ?_) ?_ ?_
      rotate_left
      · show Act.put _ (some 5) _ = _
        simp only [Act.put, List.setIfInBounds_toArray, List.set_cons_zero, List.set_cons_succ, i64_w, i32_w]
        rfl
      refine one_ (i := 2) (N := some 40) #[true, true, true, true, true, false, false, true, true, false, false, true, true, true, true, false, false, true, true, false, false, true, true, false, false, false, true, true, false, true, false] rfl rfl (by kernel_rfl) (by decide) (fun K hK => ?_)
      refine goes_ Try.func90 (by kernel_rfl) rfl #[.slice A8 b8.length (c - 8), .int .i64 8] (by rfl) rfl rfl (by simp only [List.map_toArray, List.map_cons, List.map_nil]; rfl) ?_
      with_reducible refine ((H8.out (we.alloc (.cells #[.int .u64 0, .int .i64 0, .int .i64 0, .bool false, .int .i64 0, .int .i64 0, .int .i64 0, .slice none 0 0] 88)) (by repeat (first | exact HBe.out | apply below_alloc | apply pw_below_drewN)))).mono ?_
      rintro e u2 ⟨rfl, ⟨n2, rfl⟩⟩
      refine ⟨_, rfl, ?_⟩
      refine hK.out _ _ trivial (fun hHeld => ?_)
      clear hK K
      refine norm_ (a' := ?_) ?_ ?_
      rotate_left
      · show Act.put _ (some 40) _ = _
        simp only [Act.put, List.setIfInBounds_toArray, List.set_cons_zero, List.set_cons_succ, i64_w, i32_w]
        rfl
      refine one_ (i := 5) (N := some 43) #[true, true, true, true, true, true, false, true, true, false, false, true, true, true, true, false, false, true, true, false, false, true, true, false, false, false, true, true, false, true, false] rfl rfl (by kernel_rfl) (by decide) (fun K hK => ?_)
      refine goes_ Try.func90 (by kernel_rfl) rfl #[.slice A16 b16.length (c - 16), .int .i64 4] (by rfl) rfl rfl (by simp only [List.map_toArray, List.map_cons, List.map_nil]; rfl) ?_
      with_reducible refine ((H16.out ((we.alloc (.cells #[.int .u64 0, .int .i64 0, .int .i64 0, .bool false, .int .i64 0, .int .i64 0, .int .i64 0, .slice none 0 0] 88)).drewN n2) (by repeat (first | exact HBe.out | apply below_alloc | apply pw_below_drewN)))).mono ?_
      rintro e u5 ⟨rfl, ⟨n5, rfl⟩⟩
      refine ⟨_, rfl, ?_⟩
      refine hK.out _ _ trivial (fun hHeld => ?_)
      clear hK K
      refine norm_ (a' := ?_) ?_ ?_
      rotate_left
      · show Act.put _ (some 43) _ = _
        simp only [Act.put, List.setIfInBounds_toArray, List.set_cons_zero, List.set_cons_succ, i64_w, i32_w]
        rfl
      refine pure_ (i := 6) (N := some 44) (v := ?_) (a' := ?_) #[true, true, true, true, true, true, true, true, true, false, false, true, true, true, true, false, false, true, true, false, false, true, true, false, false, false, true, true, false, true, false] rfl rfl (by kernel_rfl) (fun _ _ _ h => h) (Or.inl ⟨by rfl, ?_⟩) ?_ ?_
      rotate_left
      · intro w'
        go_simp
        with_reducible rfl
      rotate_left
      · simp only [Act.put, List.setIfInBounds_toArray, List.set_cons_zero, List.set_cons_succ, i64_w, i32_w]
        rfl
      refine one_ (i := 9) (N := some 47) #[true, true, true, true, true, true, true, true, true, true, false, true, true, true, true, false, false, true, true, false, false, true, true, false, false, false, true, true, false, true, false] rfl rfl (by kernel_rfl) (by decide) (fun K hK => ?_)
      refine goes_ Try.func90 (by kernel_rfl) rfl #[.slice A20 b20.length (c - 20), .int .i64 4] (by rfl) rfl rfl (by simp only [List.map_toArray, List.map_cons, List.map_nil]; rfl) ?_
      with_reducible refine ((H20.out (((we.alloc (.cells #[.int .u64 0, .int .i64 0, .int .i64 0, .bool false, .int .i64 0, .int .i64 0, .int .i64 0, .slice none 0 0] 88)).drewN n2).drewN n5) (by repeat (first | exact HBe.out | apply below_alloc | apply pw_below_drewN)))).mono ?_
      rintro e u9 ⟨rfl, ⟨n9, rfl⟩⟩
      refine ⟨_, rfl, ?_⟩
      refine hK.out _ _ trivial (fun hHeld => ?_)
      clear hK K
      refine norm_ (a' := ?_) ?_ ?_
      rotate_left
      · show Act.put _ (some 47) _ = _
        simp only [Act.put, List.setIfInBounds_toArray, List.set_cons_zero, List.set_cons_succ, i64_w, i32_w]
        rfl
      refine pure_ (i := 10) (N := some 48) (v := ?_) (a' := ?_) #[true, true, true, true, true, true, true, true, true, true, true, true, true, true, true, false, false, true, true, false, false, true, true, false, false, false, true, true, false, true, false] rfl rfl (by kernel_rfl) (fun _ _ _ h => h) (Or.inl ⟨by rfl, ?_⟩) ?_ ?_
      rotate_left
      · intro w'
        go_simp
        with_reducible rfl
      rotate_left
      · simp only [Act.put, List.setIfInBounds_toArray, List.set_cons_zero, List.set_cons_succ, i64_w, i32_w]
        rfl
      refine one_ (i := 15) (N := some 53) #[true, true, true, true, true, true, true, true, true, true, true, true, true, true, true, true, false, true, true, false, false, true, true, false, false, false, true, true, false, true, false] rfl rfl (by kernel_rfl) (by decide) (fun K hK => ?_)
      refine goes_ Try.func90 (by kernel_rfl) rfl #[.slice A28 b28.length (c - 28), .int .i64 8] (by rfl) rfl rfl (by simp only [List.map_toArray, List.map_cons, List.map_nil]; rfl) ?_
      with_reducible refine ((H28.out ((((we.alloc (.cells #[.int .u64 0, .int .i64 0, .int .i64 0, .bool false, .int .i64 0, .int .i64 0, .int .i64 0, .slice none 0 0] 88)).drewN n2).drewN n5).drewN n9) (by repeat (first | exact HBe.out | apply below_alloc | apply pw_below_drewN)))).mono ?_
      rintro e u15 ⟨rfl, ⟨n15, rfl⟩⟩
      refine ⟨_, rfl, ?_⟩
      refine hK.out _ _ trivial (fun hHeld => ?_)
      clear hK K
      refine norm_ (a' := ?_) ?_ ?_
      rotate_left
      · show Act.put _ (some 53) _ = _
        simp only [Act.put, List.setIfInBounds_toArray, List.set_cons_zero, List.set_cons_succ, i64_w, i32_w]
        rfl
      refine pure_ (i := 16) (N := some 54) (v := ?_) (a' := ?_) #[true, true, true, true, true, true, true, true, true, true, true, true, true, true, true, true, true, true, true, false, false, true, true, false, false, false, true, true, false, true, false] rfl rfl (by kernel_rfl) (fun _ _ _ h => h) (Or.inl ⟨by rfl, ?_⟩) ?_ ?_
      rotate_left
      · intro w'
        go_simp
        with_reducible rfl
      rotate_left
      · simp only [Act.put, List.setIfInBounds_toArray, List.set_cons_zero, List.set_cons_succ, i64_w, i32_w]
        rfl
      refine one_ (i := 19) (N := some 57) #[true, true, true, true, true, true, true, true, true, true, true, true, true, true, true, true, true, true, true, true, false, true, true, false, false, false, true, true, false, true, false] rfl rfl (by kernel_rfl) (by decide) (fun K hK => ?_)
      refine goes_ Try.func90 (by kernel_rfl) rfl #[.slice A36 b36.length (c - 36), .int .i64 8] (by rfl) rfl rfl (by simp only [List.map_toArray, List.map_cons, List.map_nil]; rfl) ?_
      with_reducible refine ((H36.out (((((we.alloc (.cells #[.int .u64 0, .int .i64 0, .int .i64 0, .bool false, .int .i64 0, .int .i64 0, .int .i64 0, .slice none 0 0] 88)).drewN n2).drewN n5).drewN n9).drewN n15) (by repeat (first | exact HBe.out | apply below_alloc | apply pw_below_drewN)))).mono ?_
      rintro e u19 ⟨rfl, ⟨n19, rfl⟩⟩
      refine ⟨_, rfl, ?_⟩
      refine hK.out _ _ trivial (fun hHeld => ?_)
      clear hK K
      refine norm_ (a' := ?_) ?_ ?_
      rotate_left
      · show Act.put _ (some 57) _ = _
        simp only [Act.put, List.setIfInBounds_toArray, List.set_cons_zero, List.set_cons_succ, i64_w, i32_w]
        rfl
      refine pure_ (i := 20) (N := some 58) (v := ?_) (a' := ?_) #[true, true, true, true, true, true, true, true, true, true, true, true, true, true, true, true, true, true, true, true, true, true, true, false, false, false, true, true, false, true, false] rfl rfl (by kernel_rfl) (fun _ _ _ h => h) (Or.inl ⟨by rfl, ?_⟩) ?_ ?_
      rotate_left
      · intro w'
        go_simp
        with_reducible rfl
      rotate_left
      · simp only [Act.put, List.setIfInBounds_toArray, List.set_cons_zero, List.set_cons_succ, i64_w, i32_w]
        rfl
      refine one_ (i := 23) (N := some 61) #[true, true, true, true, true, true, true, true, true, true, true, true, true, true, true, true, true, true, true, true, true, true, true, true, false, false, true, true, false, true, false] rfl rfl (by kernel_rfl) (by decide) (fun K hK => ?_)
      refine goes_ Try.func90 (by kernel_rfl) rfl #[.slice A44 b44.length (c - 44), .int .i64 8] (by rfl) rfl rfl (by simp only [List.map_toArray, List.map_cons, List.map_nil]; rfl) ?_
      with_reducible refine ((H44.out ((((((we.alloc (.cells #[.int .u64 0, .int .i64 0, .int .i64 0, .bool false, .int .i64 0, .int .i64 0, .int .i64 0, .slice none 0 0] 88)).drewN n2).drewN n5).drewN n9).drewN n15).drewN n19) (by repeat (first | exact HBe.out | apply below_alloc | apply pw_below_drewN)))).mono ?_
      rintro e u23 ⟨rfl, ⟨n23, rfl⟩⟩
      refine ⟨_, rfl, ?_⟩
      refine hK.out _ _ trivial (fun hHeld => ?_)
      clear hK K
      refine norm_ (a' := ?_) ?_ ?_
      rotate_left
      · show Act.put _ (some 61) _ = _
        simp only [Act.put, List.setIfInBounds_toArray, List.set_cons_zero, List.set_cons_succ, i64_w, i32_w]
        rfl
      refine pure_ (i := 24) (N := some 62) (v := ?_) (a' := ?_) #[true, true, true, true, true, true, true, true, true, true, true, true, true, true, true, true, true, true, true, true, true, true, true, true, true, false, true, true, false, true, false] rfl rfl (by kernel_rfl) (fun _ _ _ h => h) (Or.inl ⟨by rfl, ?_⟩) ?_ ?_
      rotate_left
      · intro w'
        go_simp
        with_reducible rfl
      rotate_left
      · simp only [Act.put, List.setIfInBounds_toArray, List.set_cons_zero, List.set_cons_succ, i64_w, i32_w]
        rfl
      refine pure_ (i := 25) (N := some 63) (v := ?_) (a' := ?_) #[true, true, true, true, true, true, true, true, true, true, true, true, true, true, true, true, true, true, true, true, true, true, true, true, true, true, true, true, false, true, false] rfl rfl (by kernel_rfl) (fun _ _ _ h => h) (Or.inl ⟨by rfl, ?_⟩) ?_ ?_
      rotate_left
      · intro w'
        go_simp
        with_reducible rfl
      rotate_left
      · simp only [Act.put, List.setIfInBounds_toArray, List.set_cons_zero, List.set_cons_succ, i64_w, i32_w]
        rfl
      refine pure_ (i := 28) (N := some 66) (v := ?_) (a' := ?_) #[true, true, true, true, true, true, true, true, true, true, true, true, true, true, true, true, true, true, true, true, true, true, true, true, true, true, true, true, true, true, false] rfl rfl (by kernel_rfl) (fun _ _ _ h => h) (Or.inl ⟨by rfl, ?_⟩) ?_ ?_
      rotate_left
      · intro w'
        go_simp
        with_reducible rfl
      rotate_left
      · simp only [Act.put, List.setIfInBounds_toArray, List.set_cons_zero, List.set_cons_succ, i64_w, i32_w]
        rfl
      exact norm_ (by simp only [putAll, Act.put, List.setIfInBounds_toArray, List.set_cons_zero, List.set_cons_succ]) (hCont () _ ⟨(by repeat (first | exact Below.refl we.heap.size we | apply below_alloc | apply pw_below_drewN)), (show (((((((we.alloc (.cells #[.int .u64 0, .int .i64 0, .int .i64 0, .bool false, .int .i64 0, .int .i64 0, .int .i64 0, .slice none 0 0] 88)).drewN n2).drewN n5).drewN n9).drewN n15).drewN n19).drewN n23).heap[we.heap.size]? = some (.cells #[.int .u64 0, .int .i64 0, .int .i64 0, .bool false, .int .i64 0, .int .i64 0, .int .i64 0, .slice none 0 0] 88 (0, 0)) from heap_alloc_new _ _)⟩)
  rintro _ w6 ⟨hbn, hgn⟩
  have y0 : w6.cell? ⟨we.heap.size, 0, none⟩ = some (.int .u64 0) := cell_of_row w6 _ 0 _ 88 (0, 0) hgn
  have z0 := blk_frozen hgn 0
  have y1 : w6.cell? ⟨we.heap.size, 1, none⟩ = some (.int .i64 0) := cell_of_row w6 _ 1 _ 88 (0, 0) hgn
  have z1 := blk_frozen hgn 1
  have y2 : w6.cell? ⟨we.heap.size, 2, none⟩ = some (.int .i64 0) := cell_of_row w6 _ 2 _ 88 (0, 0) hgn
  have z2 := blk_frozen hgn 2
  have y3 : w6.cell? ⟨we.heap.size, 3, none⟩ = some (.bool false) := cell_of_row w6 _ 3 _ 88 (0, 0) hgn
  have z3 := blk_frozen hgn 3
  have y4 : w6.cell? ⟨we.heap.size, 4, none⟩ = some (.int .i64 0) := cell_of_row w6 _ 4 _ 88 (0, 0) hgn
  have z4 := blk_frozen hgn 4
  have y5 : w6.cell? ⟨we.heap.size, 5, none⟩ = some (.int .i64 0) := cell_of_row w6 _ 5 _ 88 (0, 0) hgn
  have z5 := blk_frozen hgn 5
  have y6 : w6.cell? ⟨we.heap.size, 6, none⟩ = some (.int .i64 0) := cell_of_row w6 _ 6 _ 88 (0, 0) hgn
  have z6 := blk_frozen hgn 6
  have y7 : w6.cell? ⟨we.heap.size, 7, none⟩ = some (.slice none 0 0) := cell_of_row w6 _ 7 _ 88 (0, 0) hgn
  have z7 := blk_frozen hgn 7
  have hHeld : True := trivial
  refine norm_ (a' := ?_) ?_ ?_
  rotate_left
  · simp only [putAll, Act.put, List.setIfInBounds_toArray, List.set_cons_zero, List.set_cons_succ]
    rfl
  refine last_ (i := 30) (N := none) #[true, true, true, true, true, true, true, true, true, true, true, true, true, true, true, true, true, true, true, true, true, true, true, true, true, true, true, true, true, true, true] rfl rfl (by kernel_rfl) (by decide) (fun K hK => ?_)
  refine skip_ (w1 := ?_) (by rfl) rfl ?_ ?_
  rotate_left
  · go_simp
    rfl
  refine hK.out _ _ ?_
  clear hK K
  refine done_ (by kernel_rfl) ?_
  have h8 := set8 hgn (.int .u64 u8) (.int .i64 u16) (.int .i64 u20) (.bool v3) (.int .i64 v4) (.int .i64 v5) (.int .i64 v6) (.slice A64 b64.length (c - 64))
  clear y0 y1 y2 y3 y4 y5 y6 y7 z0 z1 z2 z3 z4 z5 z6 z7
  have hlt : w.heap.size < we.heap.size := blk_lt HGe.out
  have HGw := (hbn.block _ hlt).trans HGe.out
  have HBz := Aside0.mk (((Fr.of_below (HBe.out.trans (hbn.mono (Nat.le_of_lt hlt))) (fun i => i ≠ we.heap.size)).then h8.2).below (B := w.heap.size) (fun i hi => ⟨hi, by omega⟩))
  have HRz := Aside0.mk (h8.2.heap HGw (by omega))
  have HGz := Aside0.mk h8.1
  have HLT := Aside0.mk hlt
  generalize ((((((((w6.setCell ⟨we.heap.size, 0, none⟩ (.int .u64 u8)).setCell ⟨we.heap.size, 1, none⟩ (.int .i64 u16)).setCell ⟨we.heap.size, 2, none⟩ (.int .i64 u20)).setCell ⟨we.heap.size, 3, none⟩ (.bool v3)).setCell ⟨we.heap.size, 4, none⟩ (.int .i64 v4)).setCell ⟨we.heap.size, 5, none⟩ (.int .i64 v5)).setCell ⟨we.heap.size, 6, none⟩ (.int .i64 v6)).setCell ⟨we.heap.size, 7, none⟩ (.slice A64 b64.length (c - 64))) = wz at HBz HGz HRz h8 ⊢
  clear h8 hlt HGw hbn hgn hHeld HBe HGe HBq HGq HBd HGd HB HG
  (try clear k8 k16 k20 k28 k36 k44 k24 k60 k56 kT)
  (try clear H8 H16 H20 H28 H36 H44 H56 H60 HT)
  generalize we.heap.size = gq at HGz HLT ⊢
  have hgq := (blk_lt HGz.out)
  have y0 : wz.cell? ⟨gq, 0, none⟩ = some (.int .u64 u8) := cell_of_row wz _ 0 _ 88 (0, 0) HGz.out
  have y1 : wz.cell? ⟨gq, 1, none⟩ = some (.int .i64 u16) := cell_of_row wz _ 1 _ 88 (0, 0) HGz.out
  have y2 : wz.cell? ⟨gq, 2, none⟩ = some (.int .i64 u20) := cell_of_row wz _ 2 _ 88 (0, 0) HGz.out
  have y3 : wz.cell? ⟨gq, 3, none⟩ = some (.bool v3) := cell_of_row wz _ 3 _ 88 (0, 0) HGz.out
  have y4 : wz.cell? ⟨gq, 4, none⟩ = some (.int .i64 v4) := cell_of_row wz _ 4 _ 88 (0, 0) HGz.out
  have y5 : wz.cell? ⟨gq, 5, none⟩ = some (.int .i64 v5) := cell_of_row wz _ 5 _ 88 (0, 0) HGz.out
  have y6 : wz.cell? ⟨gq, 6, none⟩ = some (.int .i64 v6) := cell_of_row wz _ 6 _ 88 (0, 0) HGz.out
  have y7 : wz.cell? ⟨gq, 7, none⟩ = some (.slice A64 b64.length (c - 64)) := cell_of_row wz _ 7 _ 88 (0, 0) HGz.out
  cases cn with
  | false =>
    go_upto_region 8 with (go_at_call 91; refine (HCN.out _ HBz.out).mono ?_; rintro e w7 ⟨rfl, hb7⟩; have x6 : w7.cell? ⟨gq, 6, none⟩ = some (.int .i64 v6) := cell_of_row w7 _ 6 _ 88 (0, 0) ((hb7.block _ hgq).trans HGz.out); have x7 : w7.cell? ⟨gq, 7, none⟩ = some (.slice A64 b64.length (c - 64)) := cell_of_row w7 _ 7 _ 88 (0, 0) ((hb7.block _ hgq).trans HGz.out))
    have HB7 := Aside0.mk (HBz.out.trans (hb7.mono (Nat.le_of_lt (blk_lt HRz.out))))
    have HR7 := Aside0.mk ((hb7.block _ (blk_lt HRz.out)).trans HRz.out)
    have HG7 := Aside0.mk ((hb7.block _ hgq).trans HGz.out)
    clear hb7 x6 x7 y0 y1 y2 y3 y4 y5 y6 y7 hgq
    have x0 : w7.cell? ⟨w.heap.size, 0, none⟩ = some (.int .u64 0) := cell_of_row w7 _ 0 _ 88 (0, 0) HR7.out
    have z0 := blk_frozen HR7.out 0
    have x1 : w7.cell? ⟨w.heap.size, 1, none⟩ = some (.int .i64 0) := cell_of_row w7 _ 1 _ 88 (0, 0) HR7.out
    have z1 := blk_frozen HR7.out 1
    have x2 : w7.cell? ⟨w.heap.size, 2, none⟩ = some (.int .i64 0) := cell_of_row w7 _ 2 _ 88 (0, 0) HR7.out
    have z2 := blk_frozen HR7.out 2
    have x3 : w7.cell? ⟨w.heap.size, 3, none⟩ = some (.bool false) := cell_of_row w7 _ 3 _ 88 (0, 0) HR7.out
    have z3 := blk_frozen HR7.out 3
    have x4 : w7.cell? ⟨w.heap.size, 4, none⟩ = some (.int .i64 0) := cell_of_row w7 _ 4 _ 88 (0, 0) HR7.out
    have z4 := blk_frozen HR7.out 4
    have x5 : w7.cell? ⟨w.heap.size, 5, none⟩ = some (.int .i64 0) := cell_of_row w7 _ 5 _ 88 (0, 0) HR7.out
    have z5 := blk_frozen HR7.out 5
    have x6 : w7.cell? ⟨w.heap.size, 6, none⟩ = some (.int .i64 0) := cell_of_row w7 _ 6 _ 88 (0, 0) HR7.out
    have z6 := blk_frozen HR7.out 6
    have x7 : w7.cell? ⟨w.heap.size, 7, none⟩ = some (.slice none 0 0) := cell_of_row w7 _ 7 _ 88 (0, 0) HR7.out
    have z7 := blk_frozen HR7.out 7
    go_wp2_with fail
    have g8 := set8 HR7.out (.int .u64 0) (.int .i64 0) (.int .i64 0) (.bool false) (.int .i64 0) (.int .i64 0) (.int .i64 0) (.slice none 0 0)
    clear x0 x1 x2 x3 x4 x5 x6 x7 z0 z1 z2 z3 z4 z5 z6 z7
    have HBx := Aside0.mk (((Fr.of_below HB7.out (fun i => i ≠ w.heap.size)).then g8.2).below (B := w.heap.size) (fun i hi => ⟨hi, by omega⟩))
    have HGx := Aside0.mk g8.1
    clear g8
    generalize ((((((((w7.setCell ⟨w.heap.size, 0, none⟩ (.int .u64 0)).setCell ⟨w.heap.size, 1, none⟩ (.int .i64 0)).setCell ⟨w.heap.size, 2, none⟩ (.int .i64 0)).setCell ⟨w.heap.size, 3, none⟩ (.bool false)).setCell ⟨w.heap.size, 4, none⟩ (.int .i64 0)).setCell ⟨w.heap.size, 5, none⟩ (.int .i64 0)).setCell ⟨w.heap.size, 6, none⟩ (.int .i64 0)).setCell ⟨w.heap.size, 7, none⟩ (.slice none 0 0)) = wx at HBx HGx ⊢
    have x0 : wx.cell? ⟨w.heap.size, 0, none⟩ = some (.int .u64 0) := cell_of_row wx _ 0 _ 88 (0, 0) HGx.out
    have x1 : wx.cell? ⟨w.heap.size, 1, none⟩ = some (.int .i64 0) := cell_of_row wx _ 1 _ 88 (0, 0) HGx.out
    have x2 : wx.cell? ⟨w.heap.size, 2, none⟩ = some (.int .i64 0) := cell_of_row wx _ 2 _ 88 (0, 0) HGx.out
    have x3 : wx.cell? ⟨w.heap.size, 3, none⟩ = some (.bool false) := cell_of_row wx _ 3 _ 88 (0, 0) HGx.out
    have x4 : wx.cell? ⟨w.heap.size, 4, none⟩ = some (.int .i64 0) := cell_of_row wx _ 4 _ 88 (0, 0) HGx.out
    have x5 : wx.cell? ⟨w.heap.size, 5, none⟩ = some (.int .i64 0) := cell_of_row wx _ 5 _ 88 (0, 0) HGx.out
    have x6 : wx.cell? ⟨w.heap.size, 6, none⟩ = some (.int .i64 0) := cell_of_row wx _ 6 _ 88 (0, 0) HGx.out
    have x7 : wx.cell? ⟨w.heap.size, 7, none⟩ = some (.slice none 0 0) := cell_of_row wx _ 7 _ 88 (0, 0) HGx.out
    (try simp only [Exit.inBlock, Exit.then])
    refine bodyPost_ret (by simp [results, Try.results67, go_sem, x0, x1, x2, x3, x4, x5, x6, x7]; try rfl) rfl ?_
    exact HQ.out _ _ ⟨fun _ => rfl, fun h => absurd h (by decide), fun h => absurd h (by decide), HBx.out⟩
  | true =>
    by_cases h6 : v6 = (b64.length : Int)
    rotate_left
    · have h6b : (v6 != (b64.length : Int)) = true := by simp [h6]
      have HN := Aside0.mk h6
      clear h6
      go_upto_region 8 with (go_at_call 91; refine (HCN.out _ HBz.out).mono ?_; rintro e w7 ⟨rfl, hb7⟩; have x6 : w7.cell? ⟨gq, 6, none⟩ = some (.int .i64 v6) := cell_of_row w7 _ 6 _ 88 (0, 0) ((hb7.block _ hgq).trans HGz.out); have x7 : w7.cell? ⟨gq, 7, none⟩ = some (.slice A64 b64.length (c - 64)) := cell_of_row w7 _ 7 _ 88 (0, 0) ((hb7.block _ hgq).trans HGz.out))
      have HB7 := Aside0.mk (HBz.out.trans (hb7.mono (Nat.le_of_lt (blk_lt HRz.out))))
      have HR7 := Aside0.mk ((hb7.block _ (blk_lt HRz.out)).trans HRz.out)
      have HG7 := Aside0.mk ((hb7.block _ hgq).trans HGz.out)
      clear hb7 x6 x7 y0 y1 y2 y3 y4 y5 y6 y7 hgq
      clear h6b
      have x0 : w7.cell? ⟨w.heap.size, 0, none⟩ = some (.int .u64 0) := cell_of_row w7 _ 0 _ 88 (0, 0) HR7.out
      have z0 := blk_frozen HR7.out 0
      have x1 : w7.cell? ⟨w.heap.size, 1, none⟩ = some (.int .i64 0) := cell_of_row w7 _ 1 _ 88 (0, 0) HR7.out
      have z1 := blk_frozen HR7.out 1
      have x2 : w7.cell? ⟨w.heap.size, 2, none⟩ = some (.int .i64 0) := cell_of_row w7 _ 2 _ 88 (0, 0) HR7.out
      have z2 := blk_frozen HR7.out 2
      have x3 : w7.cell? ⟨w.heap.size, 3, none⟩ = some (.bool false) := cell_of_row w7 _ 3 _ 88 (0, 0) HR7.out
      have z3 := blk_frozen HR7.out 3
      have x4 : w7.cell? ⟨w.heap.size, 4, none⟩ = some (.int .i64 0) := cell_of_row w7 _ 4 _ 88 (0, 0) HR7.out
      have z4 := blk_frozen HR7.out 4
      have x5 : w7.cell? ⟨w.heap.size, 5, none⟩ = some (.int .i64 0) := cell_of_row w7 _ 5 _ 88 (0, 0) HR7.out
      have z5 := blk_frozen HR7.out 5
      have x6 : w7.cell? ⟨w.heap.size, 6, none⟩ = some (.int .i64 0) := cell_of_row w7 _ 6 _ 88 (0, 0) HR7.out
      have z6 := blk_frozen HR7.out 6
      have x7 : w7.cell? ⟨w.heap.size, 7, none⟩ = some (.slice none 0 0) := cell_of_row w7 _ 7 _ 88 (0, 0) HR7.out
      have z7 := blk_frozen HR7.out 7
      go_wp2_with fail
      have g8 := set8 HR7.out (.int .u64 0) (.int .i64 0) (.int .i64 0) (.bool false) (.int .i64 0) (.int .i64 0) (.int .i64 0) (.slice none 0 0)
      clear x0 x1 x2 x3 x4 x5 x6 x7 z0 z1 z2 z3 z4 z5 z6 z7
      have HBx := Aside0.mk (((Fr.of_below HB7.out (fun i => i ≠ w.heap.size)).then g8.2).below (B := w.heap.size) (fun i hi => ⟨hi, by omega⟩))
      have HGx := Aside0.mk g8.1
      clear g8
      generalize ((((((((w7.setCell ⟨w.heap.size, 0, none⟩ (.int .u64 0)).setCell ⟨w.heap.size, 1, none⟩ (.int .i64 0)).setCell ⟨w.heap.size, 2, none⟩ (.int .i64 0)).setCell ⟨w.heap.size, 3, none⟩ (.bool false)).setCell ⟨w.heap.size, 4, none⟩ (.int .i64 0)).setCell ⟨w.heap.size, 5, none⟩ (.int .i64 0)).setCell ⟨w.heap.size, 6, none⟩ (.int .i64 0)).setCell ⟨w.heap.size, 7, none⟩ (.slice none 0 0)) = wx at HBx HGx ⊢
      have x0 : wx.cell? ⟨w.heap.size, 0, none⟩ = some (.int .u64 0) := cell_of_row wx _ 0 _ 88 (0, 0) HGx.out
      have x1 : wx.cell? ⟨w.heap.size, 1, none⟩ = some (.int .i64 0) := cell_of_row wx _ 1 _ 88 (0, 0) HGx.out
      have x2 : wx.cell? ⟨w.heap.size, 2, none⟩ = some (.int .i64 0) := cell_of_row wx _ 2 _ 88 (0, 0) HGx.out
      have x3 : wx.cell? ⟨w.heap.size, 3, none⟩ = some (.bool false) := cell_of_row wx _ 3 _ 88 (0, 0) HGx.out
      have x4 : wx.cell? ⟨w.heap.size, 4, none⟩ = some (.int .i64 0) := cell_of_row wx _ 4 _ 88 (0, 0) HGx.out
      have x5 : wx.cell? ⟨w.heap.size, 5, none⟩ = some (.int .i64 0) := cell_of_row wx _ 5 _ 88 (0, 0) HGx.out
      have x6 : wx.cell? ⟨w.heap.size, 6, none⟩ = some (.int .i64 0) := cell_of_row wx _ 6 _ 88 (0, 0) HGx.out
      have x7 : wx.cell? ⟨w.heap.size, 7, none⟩ = some (.slice none 0 0) := cell_of_row wx _ 7 _ 88 (0, 0) HGx.out
      (try simp only [Exit.inBlock, Exit.then])
      refine bodyPost_ret (by simp [results, Try.results67, go_sem, x0, x1, x2, x3, x4, x5, x6, x7]; try rfl) rfl ?_
      exact HQ.out _ _ ⟨fun _ => rfl, fun _ h => absurd h HN.out, fun _ h => absurd h HN.out, HBx.out⟩
    · have h6b : (v6 != (b64.length : Int)) = false := by simp [h6]
      have HN := Aside0.mk h6
      clear h6
      go_upto_region 9 with (go_at_call 91; refine (HCN.out _ HBz.out).mono ?_; rintro e w7 ⟨rfl, hb7⟩; have x6 : w7.cell? ⟨gq, 6, none⟩ = some (.int .i64 v6) := cell_of_row w7 _ 6 _ 88 (0, 0) ((hb7.block _ hgq).trans HGz.out); have x7 : w7.cell? ⟨gq, 7, none⟩ = some (.slice A64 b64.length (c - 64)) := cell_of_row w7 _ 7 _ 88 (0, 0) ((hb7.block _ hgq).trans HGz.out))
      have HB7 := Aside0.mk (HBz.out.trans (hb7.mono (Nat.le_of_lt (blk_lt HRz.out))))
      have HR7 := Aside0.mk ((hb7.block _ (blk_lt HRz.out)).trans HRz.out)
      have HG7 := Aside0.mk ((hb7.block _ hgq).trans HGz.out)
      clear hb7 x6 x7 y0 y1 y2 y3 y4 y5 y6 y7 hgq
      clear h6b
      have HB7d := Aside0.mk (show Below w.heap.size w w7.drew from below_drew HB7.out)
      have hcm2 : IntKind.u64.wrap s64 = s64 := wrap_u64 ⟨hcb.1, by have := hcb.2; omega⟩
      have x7 : w7.drew.cell? ⟨gq, 7, none⟩ = some (.slice A64 b64.length (c - 64)) := cell_of_row w7.drew _ 7 _ 88 (0, 0) HG7.out
      by_cases hS : u52 = s64
      rotate_left
      · have hSb : (u52 != s64) = true := by simp [hS]
        have HX := Aside0.mk hS
        clear hS
        refine start_ (n := 8) (S := fun w' => w'.cell? ⟨gq, 7, none⟩ = some (.slice A64 b64.length (c - 64))) (ds := []) #[false, false, false, false, false, false, false, false] (by kernel_rfl) rfl rfl (x7) (fun hHeld => ?_)
        refine pure_ (i := 0) (N := some 80) (v := ?_) (a' := ?_) #[true, false, false, false, false, false, false, false] rfl rfl (by kernel_rfl) (fun _ _ _ h => h) (Or.inl ⟨by rfl, ?_⟩) ?_ ?_
        rotate_left
        · intro w'
          go_simp
          with_reducible rfl
        rotate_left
        · simp only [Act.put, List.setIfInBounds_toArray, List.set_cons_zero, List.set_cons_succ, i64_w, i32_w]
          rfl
        refine pure_ (i := 1) (N := some 81) (v := ?_) (a' := ?_) #[true, true, false, false, false, false, false, false] rfl rfl (by kernel_rfl) (fun _ _ _ h => h) (Or.inl ⟨by rfl, ?_⟩) ?_ ?_
        rotate_left
        · intro w'
          go_simp
          with_reducible rfl
        rotate_left
        · simp only [Act.put, List.setIfInBounds_toArray, List.set_cons_zero, List.set_cons_succ, i64_w, i32_w]
          rfl
        refine pure_ (i := 3) (N := some 83) (v := ?_) (a' := ?_) #[true, true, false, true, false, false, false, false] rfl rfl (by kernel_rfl) (fun _ _ _ h => h) (Or.inl ⟨by rfl, ?_⟩) ?_ ?_
        rotate_left
        · intro w'
          go_simp
          with_reducible rfl
        rotate_left
        · simp only [Act.put, List.setIfInBounds_toArray, List.set_cons_zero, List.set_cons_succ, i64_w, i32_w]
          rfl
        refine take_ (i := 4) (N := some 84) (v := ?_) (a' := ?_) #[true, true, false, true, true, false, false, false] rfl rfl (by kernel_rfl) (fun _ _ _ h => h) (Or.inl ⟨by rfl, ?_⟩) hHeld ?_ ?_
        rotate_left
        · intro w' s0
          go_simp
          with_reducible rfl
        rotate_left
        · simp only [Act.put, List.setIfInBounds_toArray, List.set_cons_zero, List.set_cons_succ, i64_w, i32_w]
          rfl
        refine one_ (i := 2) (N := some 82) #[true, true, true, true, true, false, false, false] rfl rfl (by kernel_rfl) (by decide) (fun K hK => ?_)
        refine goes_ Try.func90 (by kernel_rfl) rfl #[.slice A52 b52.length (c - 52), .int .i64 4] (by rfl) rfl rfl (by simp only [List.map_toArray, List.map_cons, List.map_nil]; rfl) ?_
        with_reducible refine ((H52.out w7.drew HB7d.out)).mono ?_
        rintro e w3 ⟨rfl, ⟨m7, rfl⟩⟩
        refine ⟨_, rfl, ?_⟩
        refine hK.out _ _ (x7) (fun hHeld => ?_)
        clear hK K
        refine norm_ (a' := ?_) ?_ ?_
        rotate_left
        · show Act.put _ (some 82) _ = _
          simp only [Act.put, List.setIfInBounds_toArray, List.set_cons_zero, List.set_cons_succ, i64_w, i32_w]
          rfl
        refine one_ (i := 5) (N := some 85) #[true, true, true, true, true, true, false, false] rfl rfl (by kernel_rfl) (by decide) (fun K hK => ?_)
        refine goes_ Try.func80 (by kernel_rfl) rfl #[.slice A64 b64.length (c - 64)] (by rfl) rfl rfl (by simp only [List.map_toArray, List.map_cons, List.map_nil]; rfl) ?_
        with_reducible refine ((HS0.out (w7.drew.drewN m7) (pw_below_drewN HB7d.out m7))).mono ?_
        rintro e w4 ⟨rfl, ⟨m8, rfl⟩⟩
        refine ⟨_, rfl, ?_⟩
        refine hK.out _ _ (x7) (fun hHeld => ?_)
        clear hK K
        refine norm_ (a' := ?_) ?_ ?_
        rotate_left
        · show Act.put _ (some 85) _ = _
          simp only [Act.put, List.setIfInBounds_toArray, List.set_cons_zero, List.set_cons_succ, i64_w, i32_w]
          rfl
        refine pure_ (i := 6) (N := some 86) (v := ?_) (a' := ?_) #[true, true, true, true, true, true, true, false] rfl rfl (by kernel_rfl) (fun _ _ _ h => h) (Or.inl ⟨by rfl, ?_⟩) ?_ ?_
        rotate_left
        · intro w'
          go_simp
          with_reducible rfl
        rotate_left
        · simp only [Act.put, List.setIfInBounds_toArray, List.set_cons_zero, List.set_cons_succ, i64_w, i32_w]
          rfl
        refine pure_ (i := 7) (N := some 87) (v := ?_) (a' := ?_) #[true, true, true, true, true, true, true, true] rfl rfl (by kernel_rfl) (fun _ _ _ h => h) (Or.inl ⟨by rfl, ?_⟩) ?_ ?_
        rotate_left
        · intro w'
          go_simp
          with_reducible rfl
        rotate_left
        · simp only [Act.put, List.setIfInBounds_toArray, List.set_cons_zero, List.set_cons_succ, i64_w, i32_w]
          rfl
        refine done_ (by kernel_rfl) ?_
        go_upto_region 10 with fail
        have HB9 := Aside0.mk (pw_below_drewN (pw_below_drewN HB7d.out m7) m8)
        have HR9 := Aside0.mk (show ((w7.drew.drewN m7).drewN m8).heap[w.heap.size]? = some (.cells #[.int .u64 0, .int .i64 0, .int .i64 0, .bool false, .int .i64 0, .int .i64 0, .int .i64 0, .slice none 0 0] 88 (0, 0)) from HR7.out)
        have HG9 := Aside0.mk (show ((w7.drew.drewN m7).drewN m8).heap[gq]? = some (.cells #[.int .u64 u8, .int .i64 u16, .int .i64 u20, .bool v3, .int .i64 v4, .int .i64 v5, .int .i64 v6, .slice A64 b64.length (c - 64)] 88 (0, 0)) from HG7.out)
        (try simp only [World.drewN_drewN])
        generalize h9 : ((w7.drew.drewN m7).drewN m8) = w9 at HB9 HR9 HG9
        (try simp only [World.drewN_drewN] at h9)
        rw [h9]
        clear h9 x7
        clear hSb hcm2
        have x0 : w9.cell? ⟨w.heap.size, 0, none⟩ = some (.int .u64 0) := cell_of_row w9 _ 0 _ 88 (0, 0) HR9.out
        have z0 := blk_frozen HR9.out 0
        have x1 : w9.cell? ⟨w.heap.size, 1, none⟩ = some (.int .i64 0) := cell_of_row w9 _ 1 _ 88 (0, 0) HR9.out
        have z1 := blk_frozen HR9.out 1
        have x2 : w9.cell? ⟨w.heap.size, 2, none⟩ = some (.int .i64 0) := cell_of_row w9 _ 2 _ 88 (0, 0) HR9.out
        have z2 := blk_frozen HR9.out 2
        have x3 : w9.cell? ⟨w.heap.size, 3, none⟩ = some (.bool false) := cell_of_row w9 _ 3 _ 88 (0, 0) HR9.out
        have z3 := blk_frozen HR9.out 3
        have x4 : w9.cell? ⟨w.heap.size, 4, none⟩ = some (.int .i64 0) := cell_of_row w9 _ 4 _ 88 (0, 0) HR9.out
        have z4 := blk_frozen HR9.out 4
        have x5 : w9.cell? ⟨w.heap.size, 5, none⟩ = some (.int .i64 0) := cell_of_row w9 _ 5 _ 88 (0, 0) HR9.out
        have z5 := blk_frozen HR9.out 5
        have x6 : w9.cell? ⟨w.heap.size, 6, none⟩ = some (.int .i64 0) := cell_of_row w9 _ 6 _ 88 (0, 0) HR9.out
        have z6 := blk_frozen HR9.out 6
        have x7 : w9.cell? ⟨w.heap.size, 7, none⟩ = some (.slice none 0 0) := cell_of_row w9 _ 7 _ 88 (0, 0) HR9.out
        have z7 := blk_frozen HR9.out 7
        go_wp2_with fail
        have g8 := set8 HR9.out (.int .u64 0) (.int .i64 0) (.int .i64 0) (.bool false) (.int .i64 0) (.int .i64 0) (.int .i64 0) (.slice none 0 0)
        clear x0 x1 x2 x3 x4 x5 x6 x7 z0 z1 z2 z3 z4 z5 z6 z7
        have HBx := Aside0.mk (((Fr.of_below HB9.out (fun i => i ≠ w.heap.size)).then g8.2).below (B := w.heap.size) (fun i hi => ⟨hi, by omega⟩))
        have HGx := Aside0.mk g8.1
        clear g8
        generalize ((((((((w9.setCell ⟨w.heap.size, 0, none⟩ (.int .u64 0)).setCell ⟨w.heap.size, 1, none⟩ (.int .i64 0)).setCell ⟨w.heap.size, 2, none⟩ (.int .i64 0)).setCell ⟨w.heap.size, 3, none⟩ (.bool false)).setCell ⟨w.heap.size, 4, none⟩ (.int .i64 0)).setCell ⟨w.heap.size, 5, none⟩ (.int .i64 0)).setCell ⟨w.heap.size, 6, none⟩ (.int .i64 0)).setCell ⟨w.heap.size, 7, none⟩ (.slice none 0 0)) = wx at HBx HGx ⊢
        have x0 : wx.cell? ⟨w.heap.size, 0, none⟩ = some (.int .u64 0) := cell_of_row wx _ 0 _ 88 (0, 0) HGx.out
        have x1 : wx.cell? ⟨w.heap.size, 1, none⟩ = some (.int .i64 0) := cell_of_row wx _ 1 _ 88 (0, 0) HGx.out
        have x2 : wx.cell? ⟨w.heap.size, 2, none⟩ = some (.int .i64 0) := cell_of_row wx _ 2 _ 88 (0, 0) HGx.out
        have x3 : wx.cell? ⟨w.heap.size, 3, none⟩ = some (.bool false) := cell_of_row wx _ 3 _ 88 (0, 0) HGx.out
        have x4 : wx.cell? ⟨w.heap.size, 4, none⟩ = some (.int .i64 0) := cell_of_row wx _ 4 _ 88 (0, 0) HGx.out
        have x5 : wx.cell? ⟨w.heap.size, 5, none⟩ = some (.int .i64 0) := cell_of_row wx _ 5 _ 88 (0, 0) HGx.out
        have x6 : wx.cell? ⟨w.heap.size, 6, none⟩ = some (.int .i64 0) := cell_of_row wx _ 6 _ 88 (0, 0) HGx.out
        have x7 : wx.cell? ⟨w.heap.size, 7, none⟩ = some (.slice none 0 0) := cell_of_row wx _ 7 _ 88 (0, 0) HGx.out
        (try simp only [Exit.inBlock, Exit.then])
        refine bodyPost_ret (by simp [results, Try.results67, go_sem, x0, x1, x2, x3, x4, x5, x6, x7]; try rfl) rfl ?_
        exact HQ.out _ _ ⟨fun h => h.elim (fun h => absurd h (by decide)) (fun h => absurd HN.out h), fun _ _ _ => rfl, fun _ _ h => absurd h HX.out, HBx.out⟩
      · have hSb : (u52 != s64) = false := by simp [hS]
        have HX := Aside0.mk hS
        clear hS
        refine start_ (n := 8) (S := fun w' => w'.cell? ⟨gq, 7, none⟩ = some (.slice A64 b64.length (c - 64))) (ds := []) #[false, false, false, false, false, false, false, false] (by kernel_rfl) rfl rfl (x7) (fun hHeld => ?_)
        refine pure_ (i := 0) (N := some 80) (v := ?_) (a' := ?_) #[true, false, false, false, false, false, false, false] rfl rfl (by kernel_rfl) (fun _ _ _ h => h) (Or.inl ⟨by rfl, ?_⟩) ?_ ?_
        rotate_left
        · intro w'
          go_simp
          with_reducible rfl
        rotate_left
        · simp only [Act.put, List.setIfInBounds_toArray, List.set_cons_zero, List.set_cons_succ, i64_w, i32_w]
          rfl
        refine pure_ (i := 1) (N := some 81) (v := ?_) (a' := ?_) #[true, true, false, false, false, false, false, false] rfl rfl (by kernel_rfl) (fun _ _ _ h => h) (Or.inl ⟨by rfl, ?_⟩) ?_ ?_
        rotate_left
        · intro w'
          go_simp
          with_reducible rfl
        rotate_left
        · simp only [Act.put, List.setIfInBounds_toArray, List.set_cons_zero, List.set_cons_succ, i64_w, i32_w]
          rfl
        refine pure_ (i := 3) (N := some 83) (v := ?_) (a' := ?_) #[true, true, false, true, false, false, false, false] rfl rfl (by kernel_rfl) (fun _ _ _ h => h) (Or.inl ⟨by rfl, ?_⟩) ?_ ?_
        rotate_left
        · intro w'
          go_simp
          with_reducible rfl
        rotate_left
        · simp only [Act.put, List.setIfInBounds_toArray, List.set_cons_zero, List.set_cons_succ, i64_w, i32_w]
          rfl
        refine take_ (i := 4) (N := some 84) (v := ?_) (a' := ?_) #[true, true, false, true, true, false, false, false] rfl rfl (by kernel_rfl) (fun _ _ _ h => h) (Or.inl ⟨by rfl, ?_⟩) hHeld ?_ ?_
        rotate_left
        · intro w' s0
          go_simp
          with_reducible rfl
        rotate_left
        · simp only [Act.put, List.setIfInBounds_toArray, List.set_cons_zero, List.set_cons_succ, i64_w, i32_w]
          rfl
        refine one_ (i := 2) (N := some 82) #[true, true, true, true, true, false, false, false] rfl rfl (by kernel_rfl) (by decide) (fun K hK => ?_)
        refine goes_ Try.func90 (by kernel_rfl) rfl #[.slice A52 b52.length (c - 52), .int .i64 4] (by rfl) rfl rfl (by simp only [List.map_toArray, List.map_cons, List.map_nil]; rfl) ?_
        with_reducible refine ((H52.out w7.drew HB7d.out)).mono ?_
        rintro e w3 ⟨rfl, ⟨m7, rfl⟩⟩
        refine ⟨_, rfl, ?_⟩
        refine hK.out _ _ (x7) (fun hHeld => ?_)
        clear hK K
        refine norm_ (a' := ?_) ?_ ?_
        rotate_left
        · show Act.put _ (some 82) _ = _
          simp only [Act.put, List.setIfInBounds_toArray, List.set_cons_zero, List.set_cons_succ, i64_w, i32_w]
          rfl
        refine one_ (i := 5) (N := some 85) #[true, true, true, true, true, true, false, false] rfl rfl (by kernel_rfl) (by decide) (fun K hK => ?_)
        refine goes_ Try.func80 (by kernel_rfl) rfl #[.slice A64 b64.length (c - 64)] (by rfl) rfl rfl (by simp only [List.map_toArray, List.map_cons, List.map_nil]; rfl) ?_
        with_reducible refine ((HS0.out (w7.drew.drewN m7) (pw_below_drewN HB7d.out m7))).mono ?_
        rintro e w4 ⟨rfl, ⟨m8, rfl⟩⟩
        refine ⟨_, rfl, ?_⟩
        refine hK.out _ _ (x7) (fun hHeld => ?_)
        clear hK K
        refine norm_ (a' := ?_) ?_ ?_
        rotate_left
        · show Act.put _ (some 85) _ = _
          simp only [Act.put, List.setIfInBounds_toArray, List.set_cons_zero, List.set_cons_succ, i64_w, i32_w]
          rfl
        refine pure_ (i := 6) (N := some 86) (v := ?_) (a' := ?_) #[true, true, true, true, true, true, true, false] rfl rfl (by kernel_rfl) (fun _ _ _ h => h) (Or.inl ⟨by rfl, ?_⟩) ?_ ?_
        rotate_left
        · intro w'
          go_simp
          with_reducible rfl
        rotate_left
        · simp only [Act.put, List.setIfInBounds_toArray, List.set_cons_zero, List.set_cons_succ, i64_w, i32_w]
          rfl
        refine pure_ (i := 7) (N := some 87) (v := ?_) (a' := ?_) #[true, true, true, true, true, true, true, true] rfl rfl (by kernel_rfl) (fun _ _ _ h => h) (Or.inl ⟨by rfl, ?_⟩) ?_ ?_
        rotate_left
        · intro w'
          go_simp
          with_reducible rfl
        rotate_left
        · simp only [Act.put, List.setIfInBounds_toArray, List.set_cons_zero, List.set_cons_succ, i64_w, i32_w]
          rfl
        refine done_ (by kernel_rfl) ?_
        go_upto_region 11 with fail
        have HB9 := Aside0.mk (pw_below_drewN (pw_below_drewN HB7d.out m7) m8)
        have HR9 := Aside0.mk (show ((w7.drew.drewN m7).drewN m8).heap[w.heap.size]? = some (.cells #[.int .u64 0, .int .i64 0, .int .i64 0, .bool false, .int .i64 0, .int .i64 0, .int .i64 0, .slice none 0 0] 88 (0, 0)) from HR7.out)
        have HG9 := Aside0.mk (show ((w7.drew.drewN m7).drewN m8).heap[gq]? = some (.cells #[.int .u64 u8, .int .i64 u16, .int .i64 u20, .bool v3, .int .i64 v4, .int .i64 v5, .int .i64 v6, .slice A64 b64.length (c - 64)] 88 (0, 0)) from HG7.out)
        (try simp only [World.drewN_drewN])
        generalize h9 : ((w7.drew.drewN m7).drewN m8) = w9 at HB9 HR9 HG9
        (try simp only [World.drewN_drewN] at h9)
        rw [h9]
        clear h9 x7
        clear hSb hcm2
        have y0 : w9.cell? ⟨gq, 0, none⟩ = some (.int .u64 u8) := cell_of_row w9 _ 0 _ 88 (0, 0) HG9.out
        have y1 : w9.cell? ⟨gq, 1, none⟩ = some (.int .i64 u16) := cell_of_row w9 _ 1 _ 88 (0, 0) HG9.out
        have y2 : w9.cell? ⟨gq, 2, none⟩ = some (.int .i64 u20) := cell_of_row w9 _ 2 _ 88 (0, 0) HG9.out
        have y3 : w9.cell? ⟨gq, 3, none⟩ = some (.bool v3) := cell_of_row w9 _ 3 _ 88 (0, 0) HG9.out
        have y4 : w9.cell? ⟨gq, 4, none⟩ = some (.int .i64 v4) := cell_of_row w9 _ 4 _ 88 (0, 0) HG9.out
        have y5 : w9.cell? ⟨gq, 5, none⟩ = some (.int .i64 v5) := cell_of_row w9 _ 5 _ 88 (0, 0) HG9.out
        have y6 : w9.cell? ⟨gq, 6, none⟩ = some (.int .i64 v6) := cell_of_row w9 _ 6 _ 88 (0, 0) HG9.out
        have y7 : w9.cell? ⟨gq, 7, none⟩ = some (.slice A64 b64.length (c - 64)) := cell_of_row w9 _ 7 _ 88 (0, 0) HG9.out
        have x0 : w9.cell? ⟨w.heap.size, 0, none⟩ = some (.int .u64 0) := cell_of_row w9 _ 0 _ 88 (0, 0) HR9.out
        have z0 := blk_frozen HR9.out 0
        have x1 : w9.cell? ⟨w.heap.size, 1, none⟩ = some (.int .i64 0) := cell_of_row w9 _ 1 _ 88 (0, 0) HR9.out
        have z1 := blk_frozen HR9.out 1
        have x2 : w9.cell? ⟨w.heap.size, 2, none⟩ = some (.int .i64 0) := cell_of_row w9 _ 2 _ 88 (0, 0) HR9.out
        have z2 := blk_frozen HR9.out 2
        have x3 : w9.cell? ⟨w.heap.size, 3, none⟩ = some (.bool false) := cell_of_row w9 _ 3 _ 88 (0, 0) HR9.out
        have z3 := blk_frozen HR9.out 3
        have x4 : w9.cell? ⟨w.heap.size, 4, none⟩ = some (.int .i64 0) := cell_of_row w9 _ 4 _ 88 (0, 0) HR9.out
        have z4 := blk_frozen HR9.out 4
        have x5 : w9.cell? ⟨w.heap.size, 5, none⟩ = some (.int .i64 0) := cell_of_row w9 _ 5 _ 88 (0, 0) HR9.out
        have z5 := blk_frozen HR9.out 5
        have x6 : w9.cell? ⟨w.heap.size, 6, none⟩ = some (.int .i64 0) := cell_of_row w9 _ 6 _ 88 (0, 0) HR9.out
        have z6 := blk_frozen HR9.out 6
        have x7 : w9.cell? ⟨w.heap.size, 7, none⟩ = some (.slice none 0 0) := cell_of_row w9 _ 7 _ 88 (0, 0) HR9.out
        have z7 := blk_frozen HR9.out 7
        go_wp2_with fail
        have g8 := set8 HR9.out (.int .u64 u8) (.int .i64 u16) (.int .i64 u20) (.bool v3) (.int .i64 v4) (.int .i64 v5) (.int .i64 v6) (.slice A64 b64.length (c - 64))
        clear x0 x1 x2 x3 x4 x5 x6 x7 z0 z1 z2 z3 z4 z5 z6 z7
        have HBx := Aside0.mk (((Fr.of_below HB9.out (fun i => i ≠ w.heap.size)).then g8.2).below (B := w.heap.size) (fun i hi => ⟨hi, by omega⟩))
        have HGx := Aside0.mk g8.1
        clear g8
        generalize ((((((((w9.setCell ⟨w.heap.size, 0, none⟩ (.int .u64 u8)).setCell ⟨w.heap.size, 1, none⟩ (.int .i64 u16)).setCell ⟨w.heap.size, 2, none⟩ (.int .i64 u20)).setCell ⟨w.heap.size, 3, none⟩ (.bool v3)).setCell ⟨w.heap.size, 4, none⟩ (.int .i64 v4)).setCell ⟨w.heap.size, 5, none⟩ (.int .i64 v5)).setCell ⟨w.heap.size, 6, none⟩ (.int .i64 v6)).setCell ⟨w.heap.size, 7, none⟩ (.slice A64 b64.length (c - 64))) = wx at HBx HGx ⊢
        have x0 : wx.cell? ⟨w.heap.size, 0, none⟩ = some (.int .u64 u8) := cell_of_row wx _ 0 _ 88 (0, 0) HGx.out
        have x1 : wx.cell? ⟨w.heap.size, 1, none⟩ = some (.int .i64 u16) := cell_of_row wx _ 1 _ 88 (0, 0) HGx.out
        have x2 : wx.cell? ⟨w.heap.size, 2, none⟩ = some (.int .i64 u20) := cell_of_row wx _ 2 _ 88 (0, 0) HGx.out
        have x3 : wx.cell? ⟨w.heap.size, 3, none⟩ = some (.bool v3) := cell_of_row wx _ 3 _ 88 (0, 0) HGx.out
        have x4 : wx.cell? ⟨w.heap.size, 4, none⟩ = some (.int .i64 v4) := cell_of_row wx _ 4 _ 88 (0, 0) HGx.out
        have x5 : wx.cell? ⟨w.heap.size, 5, none⟩ = some (.int .i64 v5) := cell_of_row wx _ 5 _ 88 (0, 0) HGx.out
        have x6 : wx.cell? ⟨w.heap.size, 6, none⟩ = some (.int .i64 v6) := cell_of_row wx _ 6 _ 88 (0, 0) HGx.out
        have x7 : wx.cell? ⟨w.heap.size, 7, none⟩ = some (.slice A64 b64.length (c - 64)) := cell_of_row wx _ 7 _ 88 (0, 0) HGx.out
        (try simp only [Exit.inBlock, Exit.then])
        refine bodyPost_ret (by simp [results, Try.results67, go_sem, x0, x1, x2, x3, x4, x5, x6, x7]; try rfl) rfl ?_
        exact HQ.out _ _ ⟨fun h => h.elim (fun h => absurd h (by decide)) (fun h => absurd HN.out h), fun _ _ h => absurd HX.out h, fun _ _ _ => ⟨A64, rfl, HR64.out⟩, HBx.out⟩
end Go.Proofs.Ytnkcbkfccbfjpaa.XxhW
/- Texts of mine made one: Vu, Vv, Tq, Tp, Tb, Tr, Tt. -/
/- A burst of at most 32 bits is found by the sum (CRC-32): plain, over natural numbers. -/
namespace Go.Proofs.Ytnkcbkfccbfjpaa.XxhW
open Go.RowKit Go.Proofs.Ytnkcbkfccbfjpaa.QVolumesCuts Go.Proofs.YtnkcbkfccbfjpaaW.PrintWords Go.Proofs.YtnkcbkfccbfjpaaW.PrintLast Go.Proofs.YtnkcbkfccbfjpaaW.PrintMore
set_option linter.unusedVariables false
set_option linter.unusedSimpArgs false
theorem cnt_facts (len s n : Nat) (hs : 1 ≤ s) (hn : n = max 1 ((len + s - 1) / s)) : len ≤ n * s ∧ (2 ≤ n → (n - 1) * s < len) ∧ (n = 1 → len ≤ s) := by
  have h1 := Nat.div_add_mod (len + s - 1) s
  have h2 := Nat.mod_lt (len + s - 1) (show s > 0 by omega)
  rw [Nat.mul_comm] at h1
  have a1 : len ≤ n * s := by
    have : (len + s - 1) / s * s ≤ n * s := Nat.mul_le_mul_right _ (by omega)
    omega
  refine ⟨a1, fun h => ?_, fun h => ?_⟩
  · have e : n = (len + s - 1) / s := by omega
    rw [← e] at h1
    rw [Nat.sub_mul, Nat.one_mul]
    have : s ≤ n * s := Nat.le_mul_of_pos_left _ (by omega)
    omega
  · rw [h, Nat.one_mul] at a1
    exact a1
set_option maxHeartbeats 4000000 in
theorem step_part (k : Nat) (hk : 5 ≤ k) (set : Int) (len s n i : Nat) (b : List Int) (hs : 1 ≤ s) (hs2 : s ≤ 4194305) (hlen : len ≤ 4194304) (hn : n = max 1 ((len + s - 1) / s)) (hn2 : n ≤ 1000) (hc : volumes_count.f (len : Int) (s : Int) = some (n : Int)) (hi : i < n) (at_ size : Nat) (hat : at_ = i * s) (hsz : size = min (i * s + s) len - i * s) :
    ∃ r, volumes_volume_step.f k set (i : Int) (n : Int) false (len : Int) (at_ : Int) (size : Int) b = some r ∧ 0 ≤ r := by
  obtain ⟨k, rfl⟩ : ∃ q, k = q + 3 := ⟨k - 3, by omega⟩
  obtain ⟨c1, c2, c3⟩ := cnt_facts len s n hs hn
  unfold volumes_volume_step.f
  by_cases h1 : n = 1
  · have hi0 : i = 0 := by omega
    subst hi0
    have hl := c3 h1
    rw [Nat.zero_mul] at hat hsz
    rw [if_pos (by omega), if_pos (by omega), if_pos (by omega)]
    exact ⟨0, rfl, by decide⟩
  · have h2 := c2 (by omega)
    have hi1 : i * s ≤ (n - 1) * s := Nat.mul_le_mul_right _ (by omega)
    have e1 := Aside0.mk (show wrap64 ((n : Int) - 1) = ((n - 1 : Nat) : Int) by rw [show (n : Int) - 1 = ((n - 1 : Nat) : Int) by omega]; exact wrap_small _ (by omega))
    have hns : n * s = (n - 1) * s + s := by rw [Nat.sub_mul, Nat.one_mul]; have : s ≤ n * s := Nat.le_mul_of_pos_left _ (by omega); omega
    have hsl : s < len := by have : s ≤ (n - 1) * s := Nat.le_mul_of_pos_left _ (by omega); omega
    have e3 := Aside0.mk (show wrap64 ((s : Int) * (i : Int)) = ((i * s : Nat) : Int) by rw [← Int.natCast_mul, Nat.mul_comm]; exact wrap_small _ (by omega))
    rw [if_neg (by omega), if_neg (by decide), e1.out, volumes_volume_step.j0]
    simp only [e1.out]
    by_cases h3 : i = n - 1
    · have hb : ((i : Int) == ((n - 1 : Nat) : Int)) = true := by rw [h3]; simp
      have hA : at_ = (n - 1) * s := by rw [hat, h3]
      have hm := Aside0.mk (show Int.tmod (at_ : Int) ((n - 1 : Nat) : Int) = 0 by rw [Int.tmod_eq_emod_of_nonneg (by omega), hA, Int.natCast_mul, Int.mul_emod_right])
      have hd := Aside0.mk (show Int.tdiv (at_ : Int) ((n - 1 : Nat) : Int) = (s : Int) by rw [Int.tdiv_eq_ediv_of_nonneg (by omega), hA, Int.natCast_mul, Int.mul_ediv_cancel_left _ (by omega)])
      have e4 := Aside0.mk (show wrap64 ((len : Int) - ((i * s : Nat) : Int)) = ((len - i * s : Nat) : Int) by rw [show (len : Int) - ((i * s : Nat) : Int) = ((len - i * s : Nat) : Int) by omega]; exact wrap_small _ (by omega))
      have hi2 : i * s = (n - 1) * s := by rw [h3]
      rw [if_pos hb, if_neg (by omega), if_pos hm.out, hd.out, wrap_small _ (by omega), volumes_volume_step.j1, if_neg (by omega), if_neg (by omega), hc, Option.bind_some, volumes_volume_step.j2, show ((n : Int) != (n : Int)) = false by simp, if_neg (by decide), if_neg (by decide), e1.out, if_pos (by omega), e3.out, e4.out, if_pos (by omega), if_pos (by omega)]
      exact ⟨_, rfl, by omega⟩
    · have hb : ((i : Int) == ((n - 1 : Nat) : Int)) = false := by rw [beq_eq_false_iff_ne]; omega
      have hi3 : i * s + s ≤ (n - 1) * s := by
        have : (i + 1) * s ≤ (n - 1) * s := Nat.mul_le_mul_right _ (by omega)
        rw [Nat.add_mul, Nat.one_mul] at this
        exact this
      have hss : size = s := by omega
      rw [if_neg (by rw [hb]; decide), hss, volumes_volume_step.j1, if_neg (by omega), if_neg (by omega), hc, Option.bind_some, volumes_volume_step.j2, show ((n : Int) != (n : Int)) = false by simp, if_neg (by decide), if_neg (by decide), e1.out, if_neg (by omega), if_pos rfl, e3.out, if_pos (by omega)]
      exact ⟨_, rfl, by omega⟩
set_option maxHeartbeats 4000000 in
theorem step_spare (k : Nat) (hk : 5 ≤ k) (set : Int) (len s n : Nat) (b : List Int) (hs : 1 ≤ s) (hs2 : s ≤ 4194305) (hlen : len ≤ 4194304) (hn : n = max 1 ((len + s - 1) / s)) (hn2 : n ≤ 1000) (hc : volumes_count.f (len : Int) (s : Int) = some (n : Int)) (size : Nat) (hsz : size = min s len) :
    ∃ r, volumes_volume_step.f k set (n : Int) (n : Int) true (len : Int) 0 (size : Int) b = some r ∧ 0 ≤ r := by
  obtain ⟨k, rfl⟩ : ∃ q, k = q + 3 := ⟨k - 3, by omega⟩
  obtain ⟨c1, c2, c3⟩ := cnt_facts len s n hs hn
  unfold volumes_volume_step.f
  by_cases h1 : n = 1
  · have hl := c3 h1
    rw [if_pos (by omega), if_pos (by omega), if_pos (by omega)]
    exact ⟨0, rfl, by decide⟩
  · have h2 := c2 (by omega)
    have hsl : s < len := by have : s ≤ (n - 1) * s := Nat.le_mul_of_pos_left _ (by omega); omega
    have hss : size = s := by omega
    rw [if_neg (by omega), if_pos rfl, volumes_volume_step.j0, if_neg (by decide), hss, volumes_volume_step.j1, if_neg (by omega), if_neg (by omega), hc, Option.bind_some, volumes_volume_step.j2, show ((n : Int) != (n : Int)) = false by simp, if_neg (by decide), if_pos rfl, if_pos rfl, if_pos rfl]
    exact ⟨_, rfl, by omega⟩
theorem can_of_step (k : Nat) (set : Int) (num n len at_ size : Nat) (sp : Bool) (b : List Int) (hn : 1 ≤ n) (hn2 : n ≤ 1000) (hlen : len ≤ 4194304) (ha : at_ ≤ 4194304) (hsz : size ≤ 4194304) (hsp : sp = ((num : Int) == (n : Int))) (hnum : num ≤ n) (r : Int) (hr : 0 ≤ r) (h : volumes_volume_step.f k set (num : Int) (n : Int) sp (len : Int) (at_ : Int) (size : Int) b = some r) :
    volumes_volume_can.f (k + 1) set (num : Int) (n : Int) sp (len : Int) (at_ : Int) (size : Int) b = some true := by
  unfold volumes_volume_can.f
  rw [if_neg (by omega), if_neg (by omega), if_neg (by omega), if_neg (by omega), if_neg (by omega), if_neg (by omega), if_neg (by omega), decide_eq_false (by omega), volumes_volume_can.j0, if_neg (by decide), ← hsp, show (sp != sp) = false by simp, if_neg (by decide), if_neg (by omega), if_neg (by omega), h, Option.bind_some, decide_eq_true (by omega)]
/-- What the volumes of Cut say can be. -/
theorem can_cut (k : Nat) (hk : 6 ≤ k) (set : Int) (l : List Int) (S : Nat) (hS : 1 ≤ S) (hS2 : S ≤ 9223372036854775743) (hl : l.length ≤ 4194304) (hn : countOf l S ≤ 1000) (b : List Int) :
    (∀ i, i < countOf l S → volumes_volume_can.f k set (i : Int) ((countOf l S : Nat) : Int) false (l.length : Int) ((i * stepOf l S : Nat) : Int) ((piece l (stepOf l S) i).length : Int) b = some true) ∧
    volumes_volume_can.f k set ((countOf l S : Nat) : Int) ((countOf l S : Nat) : Int) true (l.length : Int) 0 ((min (stepOf l S) l.length : Nat) : Int) b = some true := by
  obtain ⟨f1, _, _, f4, f5, f6, f7⟩ := count_facts l S hS hS2 hl
  obtain ⟨k, rfl⟩ : ∃ q, k = q + 1 := ⟨k - 1, by omega⟩
  refine ⟨fun i hi => ?_, ?_⟩
  · have h4 := f4 i hi
    have hp := piece_len l (stepOf l S) i
    obtain ⟨r, h, hr⟩ := step_part k (by omega) set l.length (stepOf l S) (countOf l S) i b f5 f6 hl rfl hn f1 hi _ _ rfl hp
    exact can_of_step k set i (countOf l S) l.length _ _ false b f7 hn hl (by omega) (by omega) (by symm; rw [beq_eq_false_iff_ne]; omega) (by omega) r hr h
  · obtain ⟨r, h, hr⟩ := step_spare k (by omega) set l.length (stepOf l S) (countOf l S) b f5 f6 hl rfl hn f1 _ rfl
    exact can_of_step k set (countOf l S) (countOf l S) l.length 0 _ true b f7 hn hl (by omega) (by omega) (by simp) (by omega) r hr h
/-! ### the numbers in a volume's head -/
theorem drop_app (a b : List Int) (n : Nat) (h : a.length = n) : (a ++ b).drop n = b := by rw [← h, List.drop_left]
theorem drop_more (v a b : List Int) (n m q : Nat) (h : v.drop n = a ++ b) (ha : a.length = m) (hq : q = n + m) : v.drop q = b := by
  rw [hq, ← List.drop_drop, h]
  exact drop_app a b m ha
theorem vol_fields (set num cnt flag whole at_ size : Int) (b : List Int) (h0 : W64u set) (h1 : 0 ≤ num ∧ num < 4294967296) (h2 : 0 ≤ cnt ∧ cnt < 4294967296) (h3 : 0 ≤ flag ∧ flag < 4294967296) (h4 : W64u whole) (h5 : W64u at_) (h6 : W64u size) :
    (volP set num cnt flag whole at_ size b).take 8 = magicL ∧ numP ((volP set num cnt flag whole at_ size b).drop 8) 8 = set ∧ numP ((volP set num cnt flag whole at_ size b).drop 16) 4 = num ∧ numP ((volP set num cnt flag whole at_ size b).drop 20) 4 = cnt ∧ numP ((volP set num cnt flag whole at_ size b).drop 24) 4 = flag ∧
    numP ((volP set num cnt flag whole at_ size b).drop 28) 8 = whole ∧ numP ((volP set num cnt flag whole at_ size b).drop 36) 8 = at_ ∧ numP ((volP set num cnt flag whole at_ size b).drop 44) 8 = size ∧ numP ((volP set num cnt flag whole at_ size b).drop 52) 4 = crc b ∧ numP ((volP set num cnt flag whole at_ size b).drop 56) 4 = 0 ∧
    numP ((volP set num cnt flag whole at_ size b).drop 60) 4 = crc ((volP set num cnt flag whole at_ size b).take 60) ∧ (volP set num cnt flag whole at_ size b).drop 64 = b := by
  obtain ⟨v, hv⟩ : ∃ v, v = volP set num cnt flag whole at_ size b := ⟨_, rfl⟩
  have hH := headP_len set num cnt flag whole at_ size b
  have t60 : v.take 60 = headP set num cnt flag whole at_ size b := by
    rw [hv]
    unfold volP
    rw [List.append_assoc, List.take_append_of_le_length (by omega), List.take_of_length_le (by omega)]
  have d60 : v.drop 60 = lowL (crc (headP set num cnt flag whole at_ size b)) 4 ++ b := by
    rw [hv]
    unfold volP
    rw [List.append_assoc]
    exact drop_app _ _ 60 hH
  have d64 := drop_more v _ _ 60 4 64 d60 (lowL_len _ _) rfl
  have hc := crc_in (headP set num cnt flag whole at_ size b)
  have hcb := crc_in b
  obtain ⟨z, hz⟩ : ∃ z, z = lowL (crc (headP set num cnt flag whole at_ size b)) 4 ++ b := ⟨_, rfl⟩
  have hv2 : v = magicL ++ (lowL set 8 ++ (lowL num 4 ++ (lowL cnt 4 ++ (lowL flag 4 ++ (lowL whole 8 ++ (lowL at_ 8 ++ (lowL size 8 ++ (lowL (crc b) 4 ++ (lowL 0 4 ++ z))))))))) := by
    rw [hv, hz]
    unfold volP headP
    simp only [List.append_assoc]
  rw [← hv]
  have hmag : magicL.length = 8 := rfl
  have d8 := (congrArg (List.drop 8) hv2).trans (drop_app _ _ 8 hmag)
  have d16 := drop_more v _ _ 8 8 16 d8 (lowL_len _ _) rfl
  have d20 := drop_more v _ _ 16 4 20 d16 (lowL_len _ _) rfl
  have d24 := drop_more v _ _ 20 4 24 d20 (lowL_len _ _) rfl
  have d28 := drop_more v _ _ 24 4 28 d24 (lowL_len _ _) rfl
  have d36 := drop_more v _ _ 28 8 36 d28 (lowL_len _ _) rfl
  have d44 := drop_more v _ _ 36 8 44 d36 (lowL_len _ _) rfl
  have d52 := drop_more v _ _ 44 8 52 d44 (lowL_len _ _) rfl
  have d56 := drop_more v _ _ 52 4 56 d52 (lowL_len _ _) rfl
  have e8 : ∀ x : Int, W64u x → x % 2 ^ (8 * 8) = x := fun x h => by
    have : (2 : Int) ^ (8 * 8) = 18446744073709551616 := by decide
    rw [this]
    exact Int.emod_eq_of_lt h.1 h.2
  have e4 : ∀ x : Int, 0 ≤ x ∧ x < 4294967296 → x % 2 ^ (8 * 4) = x := fun x h => by
    have : (2 : Int) ^ (8 * 4) = 4294967296 := by decide
    rw [this]
    exact Int.emod_eq_of_lt h.1 h.2
  refine ⟨by rw [hv2, List.take_append_of_le_length (by rw [hmag]; omega)]; rfl, ?_, ?_, ?_, ?_, ?_, ?_, ?_, ?_, ?_, ?_, d64⟩
  · rw [d8, numP_low _ h0.1 8 _ 8 (by decide), e8 _ h0]
  · rw [d16, numP_low _ h1.1 4 _ 4 (by decide), e4 _ h1]
  · rw [d20, numP_low _ h2.1 4 _ 4 (by decide), e4 _ h2]
  · rw [d24, numP_low _ h3.1 4 _ 4 (by decide), e4 _ h3]
  · rw [d28, numP_low _ h4.1 8 _ 8 (by decide), e8 _ h4]
  · rw [d36, numP_low _ h5.1 8 _ 8 (by decide), e8 _ h5]
  · rw [d44, numP_low _ h6.1 8 _ 8 (by decide), e8 _ h6]
  · rw [d52, numP_low _ hcb.1 4 _ 4 (by decide), e4 _ hcb]
  · rw [d56, numP_low _ (by decide) 4 _ 4 (by decide)]; rfl
  · rw [d60, t60, numP_low _ hc.1 4 _ 4 (by decide), e4 _ hc]
end Go.Proofs.Ytnkcbkfccbfjpaa.XxhW
/- Read of volumes (f38), over what get answers: the walk. -/
namespace Go.Proofs.Ytnkcbkfccbfjpaa.XxhW
open Go.RowKit Go.Proofs.Ytnkcbkfccbfjpaa.QVolumesCuts Go.Proofs.YtnkcbkfccbfjpaaW.PrintWords Go.Proofs.YtnkcbkfccbfjpaaW.PrintLast Go.Proofs.YtnkcbkfccbfjpaaW.PrintMore
set_option linter.unusedVariables false
set_option linter.unusedSimpArgs false
theorem own_ge_b {w : World} {B : Nat} {e : TypeId} {size n : Nat} {rv : Value} {xs : List Value} (h : w.ownsRow B e size rv n xs) (i : Nat) (hi : some i = rv.ownBlock) : B ≤ i ∧ i < w.heap.size := by
  rcases h.2 with ⟨rfl, _⟩ | ⟨g, cap, cur, rfl, h2, h3, h4⟩
  · cases hi
  · injection hi with hi
    subst hi
    exact ⟨h2, blk_lt h3⟩
set_option maxHeartbeats 8000000 in
set_option maxRecDepth 100000 in
theorem read_refuse (A : Option Addr) (c : Nat) (b : List Int) (w : World) (er : Int) (he : (er != 0) = true)
    (hget : ∀ W : World, Below w.heap.size w W → Calls Try.prog 67 #[.slice A b.length c] W fun e w' => (e = .returned (.tuple #[.agg #[.int .u64 0, .int .i64 0, .int .i64 0, .bool false, .int .i64 0, .int .i64 0, .int .i64 0, .slice none 0 0], .int .i64 er])) ∧ Below W.heap.size W w') :
    Calls Try.prog 38 #[.slice A b.length c] w fun e w' => ∃ v7_ : Value, e = .returned (.tuple #[.agg #[.int .u64 0, .int .i64 0, .int .i64 0, .bool false, .int .i64 0, .int .i64 0, .int .i64 0], v7_, .int .i64 er]) ∧ Kd.R (Kd.int .u8) 5 w' w.heap.size (fun _ => True) v7_ ([] : List Int) ∧ Below w.heap.size w w' := by
  have HGt := Aside0.mk hget
  clear hget
  have HB := Aside0.mk (Below.refl w.heap.size w)
  go_enter Try.func38, Try.ntmps38
  go_upto_region 3 with (first | ((with_reducible refine gate_dst (N := 2) rfl ?_); refine box_event ?hg (N := 2) ?hd (cs := #[.int .u64 0, .int .i64 0, .int .i64 0, .bool false, .int .i64 0, .int .i64 0, .int .i64 0]) (t := 68) ?hr ?_; (case hd => rfl); (case hg => rfl); (case hr => first | (go_simp; done) | (go_simp; rfl)); intro gr hgv w1 hbox hb; have n0 := Aside0.mk (below_step HB.out hb); have n1 := Aside0.mk (show w.heap.size ≤ gr by rw [hgv]; exact below_size HB.out); have BKR := Aside0.mk hbox; have GR := n1; clear n1; clear HB; have HB := n0; clear n0 hb hbox hgv) | (go_at_call 67; refine (HGt.out _ HB.out).mono ?_; rintro e w2 ⟨rfl, hb2⟩; have n0 := Aside0.mk (below_step HB.out hb2); have n1 := Aside0.mk (blk_below BKR.out hb2); clear HB BKR; have HB := n0; have BKR := n1; clear n0 n1) | ((with_reducible refine gate_dst (N := 5) rfl ?_); refine box_event ?hg (N := 5) ?hd (cs := #[.int .u64 0, .int .i64 0, .int .i64 0, .bool false, .int .i64 0, .int .i64 0, .int .i64 0, .slice none 0 0]) (t := 88) ?hr ?_; (case hd => rfl); (case hg => rfl); (case hr => first | (go_simp; done) | (go_simp; rfl)); intro gv hgv w3 hbox hb; have n0 := Aside0.mk (below_step HB.out hb); have n1 := Aside0.mk (show w.heap.size ≤ gv by rw [hgv]; exact below_size HB.out); have n2 := Aside0.mk (blk_below BKR.out hb); clear BKR; have BKR := n2; have BKV := Aside0.mk hbox; have GV := n1; clear n1 n2; have y0 : w3.cell? ⟨gv, 0, none⟩ = some (.int .u64 0) := (blk_cell hbox 0).trans rfl; have z0 := blk_frozen hbox 0; have y1 : w3.cell? ⟨gv, 1, none⟩ = some (.int .i64 0) := (blk_cell hbox 1).trans rfl; have z1 := blk_frozen hbox 1; have y2 : w3.cell? ⟨gv, 2, none⟩ = some (.int .i64 0) := (blk_cell hbox 2).trans rfl; have z2 := blk_frozen hbox 2; have y3 : w3.cell? ⟨gv, 3, none⟩ = some (.bool false) := (blk_cell hbox 3).trans rfl; have z3 := blk_frozen hbox 3; have y4 : w3.cell? ⟨gv, 4, none⟩ = some (.int .i64 0) := (blk_cell hbox 4).trans rfl; have z4 := blk_frozen hbox 4; have y5 : w3.cell? ⟨gv, 5, none⟩ = some (.int .i64 0) := (blk_cell hbox 5).trans rfl; have z5 := blk_frozen hbox 5; have y6 : w3.cell? ⟨gv, 6, none⟩ = some (.int .i64 0) := (blk_cell hbox 6).trans rfl; have z6 := blk_frozen hbox 6; have y7 : w3.cell? ⟨gv, 7, none⟩ = some (.slice none 0 0) := (blk_cell hbox 7).trans rfl; have z7 := blk_frozen hbox 7; clear HB; have HB := n0; clear n0 hb hbox hgv))
  clear y0 y1 y2 y3 y4 y5 y6 y7 z0 z1 z2 z3 z4 z5 z6 z7
  have h8 := set8 BKV.out (.int .u64 0) (.int .i64 0) (.int .i64 0) (.bool false) (.int .i64 0) (.int .i64 0) (.int .i64 0) (.slice none 0 0)
  have hne : gr ≠ gv := blk_ne BKR.out BKV.out (by decide)
  have hgv := GV.out
  have HBz := Aside0.mk (((Fr.of_below HB.out (fun i => i ≠ gv)).then h8.2).below (B := w.heap.size) (fun i hi => ⟨hi, by omega⟩))
  have HRz := Aside0.mk (h8.2.heap BKR.out hne)
  have HVz := Aside0.mk h8.1
  have HNE := Aside0.mk hne
  clear hne hgv h8 HB BKR BKV
  generalize ((((((((w3.setCell ⟨gv, 0, none⟩ (.int .u64 0)).setCell ⟨gv, 1, none⟩ (.int .i64 0)).setCell ⟨gv, 2, none⟩ (.int .i64 0)).setCell ⟨gv, 3, none⟩ (.bool false)).setCell ⟨gv, 4, none⟩ (.int .i64 0)).setCell ⟨gv, 5, none⟩ (.int .i64 0)).setCell ⟨gv, 6, none⟩ (.int .i64 0)).setCell ⟨gv, 7, none⟩ (.slice none 0 0)) = wz at HBz HRz HVz ⊢
  have x0 : wz.cell? ⟨gr, 0, none⟩ = some (.int .u64 0) := (blk_cell HRz.out 0).trans rfl
  have u0 := blk_frozen HRz.out 0
  have x1 : wz.cell? ⟨gr, 1, none⟩ = some (.int .i64 0) := (blk_cell HRz.out 1).trans rfl
  have u1 := blk_frozen HRz.out 1
  have x2 : wz.cell? ⟨gr, 2, none⟩ = some (.int .i64 0) := (blk_cell HRz.out 2).trans rfl
  have u2 := blk_frozen HRz.out 2
  have x3 : wz.cell? ⟨gr, 3, none⟩ = some (.bool false) := (blk_cell HRz.out 3).trans rfl
  have u3 := blk_frozen HRz.out 3
  have x4 : wz.cell? ⟨gr, 4, none⟩ = some (.int .i64 0) := (blk_cell HRz.out 4).trans rfl
  have u4 := blk_frozen HRz.out 4
  have x5 : wz.cell? ⟨gr, 5, none⟩ = some (.int .i64 0) := (blk_cell HRz.out 5).trans rfl
  have u5 := blk_frozen HRz.out 5
  have x6 : wz.cell? ⟨gr, 6, none⟩ = some (.int .i64 0) := (blk_cell HRz.out 6).trans rfl
  have u6 := blk_frozen HRz.out 6
  go_wp2_with fail
  clear x0 x1 x2 x3 x4 x5 x6 u0 u1 u2 u3 u4 u5 u6
  have g7 := set7 HRz.out (.int .u64 0) (.int .i64 0) (.int .i64 0) (.bool false) (.int .i64 0) (.int .i64 0) (.int .i64 0)
  have hgr := GR.out
  have HBx := Aside0.mk (((Fr.of_below HBz.out (fun i => i ≠ gr)).then g7.2).below (B := w.heap.size) (fun i hi => ⟨hi, by omega⟩))
  (try simp only [Exit.inBlock, Exit.then])
  refine bodyPost_ret (results_ctt rfl _ _ gr 68 #[.int .u64 0, .int .i64 0, .int .i64 0, .bool false, .int .i64 0, .int .i64 0, .int .i64 0] (0, 0) _ rfl g7.1 Try.underlying68 rfl (by kernel_rfl)) rfl ?_
  exact ⟨_, by first | rfl | (simp; done), Kd.R_nil _ _ _ _ _, HBx.out⟩
set_option maxHeartbeats 8000000 in
set_option maxRecDepth 100000 in
theorem read_ok (A : Option Addr) (c : Nat) (b : List Int) (w : World) (v0 v1 v2 : Int) (v3 : Bool) (v4 v5 v6 : Int) (l : List Int) (cb : Nat) (hl : l.length ≤ 100000000)
    (hget : ∀ W : World, Below w.heap.size w W → Calls Try.prog 67 #[.slice A b.length c] W fun e w' => (∃ A' : Option Addr, e = .returned (.tuple #[.agg #[.int .u64 v0, .int .i64 v1, .int .i64 v2, .bool v3, .int .i64 v4, .int .i64 v5, .int .i64 v6, (Value.slice A' l.length cb)], .int .i64 0]) ∧ ReadsInt W .u8 A' l.length l) ∧ Below W.heap.size W w') :
    Calls Try.prog 38 #[.slice A b.length c] w fun e w' => ∃ v7_ : Value, e = .returned (.tuple #[.agg #[.int .u64 v0, .int .i64 v1, .int .i64 v2, .bool v3, .int .i64 v4, .int .i64 v5, .int .i64 v6], v7_, .int .i64 0]) ∧ Kd.R (Kd.int .u8) 5 w' w.heap.size (fun _ => True) v7_ l ∧ Below w.heap.size w w' := by
  have HGt := Aside0.mk hget
  clear hget
  have HB := Aside0.mk (Below.refl w.heap.size w)
  go_enter Try.func38, Try.ntmps38
  go_upto_region 4 with (first | ((with_reducible refine gate_dst (N := 2) rfl ?_); refine box_event ?hg (N := 2) ?hd (cs := #[.int .u64 0, .int .i64 0, .int .i64 0, .bool false, .int .i64 0, .int .i64 0, .int .i64 0]) (t := 68) ?hr ?_; (case hd => rfl); (case hg => rfl); (case hr => first | (go_simp; done) | (go_simp; rfl)); intro gr hgv w1 hbox hb; have n0 := Aside0.mk (below_step HB.out hb); have n1 := Aside0.mk (show w.heap.size ≤ gr by rw [hgv]; exact below_size HB.out); have BKR := Aside0.mk hbox; have GR := n1; clear n1; clear HB; have HB := n0; clear n0 hb hbox hgv) | (go_at_call 67; refine (HGt.out _ HB.out).mono ?_; rintro e w2 ⟨⟨A', rfl, hrd⟩, hb2⟩; have n0 := Aside0.mk (below_step HB.out hb2); have n1 := Aside0.mk (blk_below BKR.out hb2); clear HB BKR; have HB := n0; have BKR := n1; have HRD := Aside0.mk hrd; have HB1 := Aside0.mk hb2; clear n0 n1 hrd hb2) | ((with_reducible refine gate_dst (N := 5) rfl ?_); refine box_event ?hg (N := 5) ?hd (cs := #[.int .u64 0, .int .i64 0, .int .i64 0, .bool false, .int .i64 0, .int .i64 0, .int .i64 0, .slice none 0 0]) (t := 88) ?hr ?_; (case hd => rfl); (case hg => rfl); (case hr => first | (go_simp; done) | (go_simp; rfl)); intro gv hgv w3 hbox hb; have n0 := Aside0.mk (below_step HB.out hb); have n1 := Aside0.mk (show w.heap.size ≤ gv by rw [hgv]; exact below_size HB.out); have n2 := Aside0.mk (blk_below BKR.out hb); clear BKR; have BKR := n2; have BKV := Aside0.mk hbox; have GV := n1; clear n1 n2; have n3 := Aside0.mk (below_step HB1.out hb); have GV1 := Aside0.mk (show w1.heap.size ≤ gv by rw [hgv]; exact below_size HB1.out); clear HB1; have HB1 := n3; clear n3; have y0 : w3.cell? ⟨gv, 0, none⟩ = some (.int .u64 0) := (blk_cell hbox 0).trans rfl; have z0 := blk_frozen hbox 0; have y1 : w3.cell? ⟨gv, 1, none⟩ = some (.int .i64 0) := (blk_cell hbox 1).trans rfl; have z1 := blk_frozen hbox 1; have y2 : w3.cell? ⟨gv, 2, none⟩ = some (.int .i64 0) := (blk_cell hbox 2).trans rfl; have z2 := blk_frozen hbox 2; have y3 : w3.cell? ⟨gv, 3, none⟩ = some (.bool false) := (blk_cell hbox 3).trans rfl; have z3 := blk_frozen hbox 3; have y4 : w3.cell? ⟨gv, 4, none⟩ = some (.int .i64 0) := (blk_cell hbox 4).trans rfl; have z4 := blk_frozen hbox 4; have y5 : w3.cell? ⟨gv, 5, none⟩ = some (.int .i64 0) := (blk_cell hbox 5).trans rfl; have z5 := blk_frozen hbox 5; have y6 : w3.cell? ⟨gv, 6, none⟩ = some (.int .i64 0) := (blk_cell hbox 6).trans rfl; have z6 := blk_frozen hbox 6; have y7 : w3.cell? ⟨gv, 7, none⟩ = some (.slice none 0 0) := (blk_cell hbox 7).trans rfl; have z7 := blk_frozen hbox 7; clear HB; have HB := n0; clear n0 hb hbox hgv))
  clear y0 y1 y2 y3 y4 y5 y6 y7 z0 z1 z2 z3 z4 z5 z6 z7
  have h8 := set8 BKV.out (.int .u64 v0) (.int .i64 v1) (.int .i64 v2) (.bool v3) (.int .i64 v4) (.int .i64 v5) (.int .i64 v6) ((Value.slice A' l.length cb))
  have hne : gr ≠ gv := blk_ne BKR.out BKV.out (by decide)
  have hgv := GV.out
  have HBz := Aside0.mk (((Fr.of_below HB.out (fun i => i ≠ gv)).then h8.2).below (B := w.heap.size) (fun i hi => ⟨hi, by omega⟩))
  have HRz := Aside0.mk (h8.2.heap BKR.out hne)
  have HVz := Aside0.mk h8.1
  have HNE := Aside0.mk hne
  have hgv1 := GV1.out
  have HB1z := Aside0.mk (((Fr.of_below HB1.out (fun i => i ≠ gv)).then h8.2).below (B := w1.heap.size) (fun i hi => ⟨hi, by omega⟩))
  clear hgv1 HB1
  clear hne hgv h8 HB BKR BKV
  generalize ((((((((w3.setCell ⟨gv, 0, none⟩ (.int .u64 v0)).setCell ⟨gv, 1, none⟩ (.int .i64 v1)).setCell ⟨gv, 2, none⟩ (.int .i64 v2)).setCell ⟨gv, 3, none⟩ (.bool v3)).setCell ⟨gv, 4, none⟩ (.int .i64 v4)).setCell ⟨gv, 5, none⟩ (.int .i64 v5)).setCell ⟨gv, 6, none⟩ (.int .i64 v6)).setCell ⟨gv, 7, none⟩ ((Value.slice A' l.length cb))) = wz at HBz HRz HVz HB1z ⊢
  have HBd := Aside0.mk (show Below w.heap.size w wz.drew from below_drew HBz.out)
  have HB1d := Aside0.mk (show Below w1.heap.size w1 wz.drew from below_drew HB1z.out)
  have HRd := Aside0.mk (show wz.drew.heap[gr]? = some (.cells #[.int .u64 0, .int .i64 0, .int .i64 0, .bool false, .int .i64 0, .int .i64 0, .int .i64 0] 68 (0, 0)) from HRz.out)
  have HVd := Aside0.mk (show wz.drew.heap[gv]? = some (.cells #[.int .u64 v0, .int .i64 v1, .int .i64 v2, .bool v3, .int .i64 v4, .int .i64 v5, .int .i64 v6, (Value.slice A' l.length cb)] 88 (0, 0)) from HVz.out)
  have y0 : wz.drew.cell? ⟨gv, 0, none⟩ = some (.int .u64 v0) := (blk_cell HVd.out 0).trans rfl
  have y1 : wz.drew.cell? ⟨gv, 1, none⟩ = some (.int .i64 v1) := (blk_cell HVd.out 1).trans rfl
  have y2 : wz.drew.cell? ⟨gv, 2, none⟩ = some (.int .i64 v2) := (blk_cell HVd.out 2).trans rfl
  have y3 : wz.drew.cell? ⟨gv, 3, none⟩ = some (.bool v3) := (blk_cell HVd.out 3).trans rfl
  have y4 : wz.drew.cell? ⟨gv, 4, none⟩ = some (.int .i64 v4) := (blk_cell HVd.out 4).trans rfl
  have y5 : wz.drew.cell? ⟨gv, 5, none⟩ = some (.int .i64 v5) := (blk_cell HVd.out 5).trans rfl
  have y6 : wz.drew.cell? ⟨gv, 6, none⟩ = some (.int .i64 v6) := (blk_cell HVd.out 6).trans rfl
  have y7 : wz.drew.cell? ⟨gv, 7, none⟩ = some ((Value.slice A' l.length cb)) := (blk_cell HVd.out 7).trans rfl
  refine start_ (n := 8) (S := fun w' => w'.cell? ⟨gv, 0, none⟩ = some (.int .u64 v0) ∧ w'.cell? ⟨gv, 1, none⟩ = some (.int .i64 v1) ∧ w'.cell? ⟨gv, 2, none⟩ = some (.int .i64 v2) ∧ w'.cell? ⟨gv, 3, none⟩ = some (.bool v3) ∧ w'.cell? ⟨gv, 4, none⟩ = some (.int .i64 v4) ∧ w'.cell? ⟨gv, 5, none⟩ = some (.int .i64 v5) ∧ w'.cell? ⟨gv, 6, none⟩ = some (.int .i64 v6) ∧ w'.cell? ⟨gv, 7, none⟩ = some ((Value.slice A' l.length cb))) (ds := [5]) #[false, false, false, false, false, false, false, false] (by kernel_rfl) rfl rfl ⟨y0, y1, y2, y3, y4, y5, y6, y7⟩ (fun hHeld => ?_)
  generalize wz.drew = wd at HBd HB1d HRd HVd y0 y1 y2 y3 y4 y5 y6 y7 hHeld ⊢
  refine pure_ (i := 0) (N := some 16) (v := ?_) (a' := ?_) #[true, false, false, false, false, false, false, false] rfl rfl (by kernel_rfl) (fun _ _ _ h => h) (Or.inl ⟨by rfl, ?_⟩) ?_ ?_
  rotate_left
  · intro w'
    go_simp
    with_reducible rfl
  rotate_left
  · simp only [Act.put, List.setIfInBounds_toArray, List.set_cons_zero, List.set_cons_succ, i64_w, i32_w]
    rfl
  refine pure_ (i := 2) (N := some 18) (v := ?_) (a' := ?_) #[true, false, true, false, false, false, false, false] rfl rfl (by kernel_rfl) (fun _ _ _ h => h) (Or.inl ⟨by rfl, ?_⟩) ?_ ?_
  rotate_left
  · intro w'
    go_simp
    with_reducible rfl
  rotate_left
  · simp only [Act.put, List.setIfInBounds_toArray, List.set_cons_zero, List.set_cons_succ, i64_w, i32_w]
    rfl
  refine take_ (i := 1) (N := some 17) (v := ?_) (a' := ?_) #[true, true, true, false, false, false, false, false] rfl rfl (by kernel_rfl) (fun _ _ _ h => h) (Or.inl ⟨by rfl, ?_⟩) hHeld ?_ ?_
  rotate_left
  · rintro w' ⟨s0, s1, s2, s3, s4, s5, s6, s7⟩
    go_simp
    with_reducible rfl
  rotate_left
  · simp only [Act.put, List.setIfInBounds_toArray, List.set_cons_zero, List.set_cons_succ, i64_w, i32_w]
    rfl
  refine take_ (i := 3) (N := some 19) (v := ?_) (a' := ?_) #[true, true, true, true, false, false, false, false] rfl rfl (by kernel_rfl) (fun _ _ _ h => h) (Or.inl ⟨by rfl, ?_⟩) hHeld ?_ ?_
  rotate_left
  · rintro w' ⟨s0, s1, s2, s3, s4, s5, s6, s7⟩
    go_simp
    with_reducible rfl
  rotate_left
  · simp only [Act.put, List.setIfInBounds_toArray, List.set_cons_zero, List.set_cons_succ, i64_w, i32_w]
    rfl
  refine one_ (i := 4) (N := some 20) #[true, true, true, true, true, false, false, false] rfl rfl (by kernel_rfl) (by decide) (fun K hK => ?_)
  refine goes_ Try.func68 (by kernel_rfl) rfl #[.slice A' l.length cb] (by rfl) rfl rfl (by simp only [List.map_toArray, List.map_cons, List.map_nil]; rfl) ?_
  with_reducible refine ((clone_any A' cb l wd (HRD.out.below HB1d.out) (by omega))).mono ?_
  rintro e w4 ⟨A4, c4, rfl, ho4, hb4⟩
  refine ⟨_, rfl, ?_⟩
  have HB4 := Aside0.mk (below_step HBd.out hb4)
  have HR4 := Aside0.mk (blk_below HRd.out hb4)
  have HV4 := Aside0.mk (blk_below HVd.out hb4)
  have HO4 := Aside0.mk (Kd.R_of_own (enc := Value.int .u8) (h1 := fun _ => rfl) (ok := fun k => wd.heap.size ≤ k) ho4 (fun k hk => (own_ge_b ho4 k hk.symm).1))
  clear ho4 hb4
  have x0 : w4.cell? ⟨gr, 0, none⟩ = some (.int .u64 0) := (blk_cell HR4.out 0).trans rfl
  have u0 := blk_frozen HR4.out 0
  have x1 : w4.cell? ⟨gr, 1, none⟩ = some (.int .i64 0) := (blk_cell HR4.out 1).trans rfl
  have u1 := blk_frozen HR4.out 1
  have x2 : w4.cell? ⟨gr, 2, none⟩ = some (.int .i64 0) := (blk_cell HR4.out 2).trans rfl
  have u2 := blk_frozen HR4.out 2
  have x3 : w4.cell? ⟨gr, 3, none⟩ = some (.bool false) := (blk_cell HR4.out 3).trans rfl
  have u3 := blk_frozen HR4.out 3
  have x4 : w4.cell? ⟨gr, 4, none⟩ = some (.int .i64 0) := (blk_cell HR4.out 4).trans rfl
  have u4 := blk_frozen HR4.out 4
  have x5 : w4.cell? ⟨gr, 5, none⟩ = some (.int .i64 0) := (blk_cell HR4.out 5).trans rfl
  have u5 := blk_frozen HR4.out 5
  have x6 : w4.cell? ⟨gr, 6, none⟩ = some (.int .i64 0) := (blk_cell HR4.out 6).trans rfl
  have u6 := blk_frozen HR4.out 6
  refine hK.out _ _ ⟨(blk_cell HV4.out 0).trans rfl, (blk_cell HV4.out 1).trans rfl, (blk_cell HV4.out 2).trans rfl, (blk_cell HV4.out 3).trans rfl, (blk_cell HV4.out 4).trans rfl, (blk_cell HV4.out 5).trans rfl, (blk_cell HV4.out 6).trans rfl, (blk_cell HV4.out 7).trans rfl⟩ (fun hHeld => ?_)
  clear hK K
  refine norm_ (a' := ?_) ?_ ?_
  rotate_left
  · show Act.put _ (some 20) _ = _
    simp only [Act.put, List.setIfInBounds_toArray, List.set_cons_zero, List.set_cons_succ, i64_w, i32_w]
    rfl
  refine last_ (i := 5) (N := none) #[true, true, true, true, true, true, false, false] rfl rfl (by kernel_rfl) (by decide) (fun K hK => ?_)
  refine skip_ (w1 := ?_) (by rfl) rfl ?_ ?_
  rotate_left
  · go_simp
    rfl
  refine hK.out _ _ ?_
  clear hK K
  refine pure_ (i := 6) (N := some 3) (v := ?_) (a' := ?_) #[true, true, true, true, true, true, true, false] rfl rfl (by kernel_rfl) (fun _ _ _ h => h) (Or.inl ⟨by rfl, ?_⟩) ?_ ?_
  rotate_left
  · intro w'
    go_simp
    with_reducible rfl
  rotate_left
  · simp only [Act.put, List.setIfInBounds_toArray, List.set_cons_zero, List.set_cons_succ, i64_w, i32_w]
    rfl
  refine pure_ (i := 7) (N := some 4) (v := ?_) (a' := ?_) #[true, true, true, true, true, true, true, true] rfl rfl (by kernel_rfl) (fun _ _ _ h => h) (Or.inl ⟨by rfl, ?_⟩) ?_ ?_
  rotate_left
  · intro w'
    go_simp
    with_reducible rfl
  rotate_left
  · simp only [Act.put, List.setIfInBounds_toArray, List.set_cons_zero, List.set_cons_succ, i64_w, i32_w]
    rfl
  refine done_ (by kernel_rfl) ?_
  go_wp2_with fail
  clear x0 x1 x2 x3 x4 x5 x6 u0 u1 u2 u3 u4 u5 u6
  have g7 := set7 HR4.out (.int .u64 v0) (.int .i64 v1) (.int .i64 v2) (.bool v3) (.int .i64 v4) (.int .i64 v5) (.int .i64 v6)
  have hgr := GR.out
  have HBx := Aside0.mk (((Fr.of_below HB4.out (fun i => i ≠ gr)).then g7.2).below (B := w.heap.size) (fun i hi => ⟨hi, by omega⟩))
  (try simp only [Exit.inBlock, Exit.then])
  refine bodyPost_ret (results_ctt rfl _ _ gr 68 #[.int .u64 v0, .int .i64 v1, .int .i64 v2, .bool v3, .int .i64 v4, .int .i64 v5, .int .i64 v6] (0, 0) _ rfl g7.1 Try.underlying68 rfl (by kernel_rfl)) rfl ?_
  exact ⟨_, by first | rfl | (simp; done), Kd.R_lower (Kd.R_mono (Kd.R_far (p := ⟨gr, 6, none⟩) (Kd.R_far (p := ⟨gr, 5, none⟩) (Kd.R_far (p := ⟨gr, 4, none⟩) (Kd.R_far (p := ⟨gr, 3, none⟩) (Kd.R_far (p := ⟨gr, 2, none⟩) (Kd.R_far (p := ⟨gr, 1, none⟩) (Kd.R_far (p := ⟨gr, 0, none⟩) (Kd.R_types HO4.out HR4.out (by decide)) (fun _ hk => hk.2) (.int .u64 v0)) (fun _ hk => hk.2) (.int .i64 v1)) (fun _ hk => hk.2) (.int .i64 v2)) (fun _ hk => hk.2) (.bool v3)) (fun _ hk => hk.2) (.int .i64 v4)) (fun _ hk => hk.2) (.int .i64 v5)) (fun _ hk => hk.2) (.int .i64 v6)) (fun _ hk => trivial)) (below_size HBd.out), HBx.out⟩
end Go.Proofs.Ytnkcbkfccbfjpaa.XxhW
/- Volumes, plain: what Read answers; a volume of which neighbouring bits are turned is refused, any other volume of Cut is read. -/
namespace Go.Proofs.Ytnkcbkfccbfjpaa.Z
open Go.RowKit Go.Proofs.Ytnkcbkfccbfjpaa.XxhW Go.Proofs.Ytnkcbkfccbfjpaa.QVolumesCuts Go.Proofs.YtnkcbkfccbfjpaaW.PrintWords Go.Proofs.YtnkcbkfccbfjpaaW.PrintLast Go.Proofs.YtnkcbkfccbfjpaaW.PrintMore
set_option linter.unusedVariables false
set_option linter.unusedSimpArgs false
/-! ### what Read answers -/
def isByte (b : List Int) : Bool := b.all fun q => decide (0 ≤ q) && decide (q < 256)
def magicOk (b : List Int) : Bool := (strOfNums (b.take 8)).toList == [83, 65, 84, 67, 72, 86, 79, 76]
def canP (b : List Int) : Option Bool := volumes_volume_can.f 10 (numP (b.drop 8) 8) (numP (b.drop 16) 4) (numP (b.drop 20) 4) (numP (b.drop 24) 4 == 1) (wrap64 (numP (b.drop 28) 8)) (wrap64 (numP (b.drop 36) 8)) (wrap64 (numP (b.drop 44) 8)) (b.drop 64)
def volumes_Read.f (b : List Int) : Option (Int × Int × Int × Bool × Int × Int × Int × List Int × Int) :=
  if isByte b = true then (if 64 ≤ b.length then (if b.length ≤ 100000000 then (
    if magicOk b = true then (if numP (b.drop 60) 4 = crc (b.take 60) then (if numP (b.drop 56) 4 = 0 then (if numP (b.drop 24) 4 ≤ 1 then (
      (canP b).bind fun cn => if cn = true ∧ wrap64 (numP (b.drop 44) 8) = ((b.drop 64).length : Int) then
        (if numP (b.drop 52) 4 = crc (b.drop 64) then some (numP (b.drop 8) 8, numP (b.drop 16) 4, numP (b.drop 20) 4, (numP (b.drop 24) 4 == 1), wrap64 (numP (b.drop 28) 8), wrap64 (numP (b.drop 36) 8), wrap64 (numP (b.drop 44) 8), b.drop 64, 0) else some (0, 0, 0, false, 0, 0, 0, [], 131))
        else some (0, 0, 0, false, 0, 0, 0, [], 270)) else none) else none) else some (0, 0, 0, false, 0, 0, 0, [], 270)) else some (0, 0, 0, false, 0, 0, 0, [], 270)) else none) else none) else none
theorem isByte_iff (b : List Int) : isByte b = true ↔ ∀ q ∈ b, 0 ≤ q ∧ q < 256 := by
  unfold isByte
  rw [List.all_eq_true]
  constructor
  · intro h q hq
    have := h q hq
    simp only [Bool.and_eq_true, decide_eq_true_eq] at this
    exact this
  · intro h q hq
    simp only [Bool.and_eq_true, decide_eq_true_eq]
    exact h q hq
theorem isByte_get {b : List Int} (h : isByte b = true) (q : Nat) : 0 ≤ b.getD q 0 ∧ b.getD q 0 < 256 := by
  rw [List.getD_eq_getElem?_getD]
  by_cases c : q < b.length
  · rw [List.getElem?_eq_getElem c, Option.getD_some]
    exact (isByte_iff b).1 h _ (List.getElem_mem c)
  · rw [List.getElem?_eq_none (by omega)]
    decide
/-! ### a volume of Cut -/
theorem can_bytes (k : Nat) (v0 v1 v2 : Int) (v3 : Bool) (v4 v5 v6 : Int) (b b' : List Int) : volumes_volume_can.f k v0 v1 v2 v3 v4 v5 v6 b = volumes_volume_can.f k v0 v1 v2 v3 v4 v5 v6 b' := by
  have s2 : ∀ k x3 x4 x5 x6 x72 x0 x1 x2 x3' x4' x5' x6', volumes_volume_step.j2 k x3 x4 x5 x6 x72 x0 x1 x2 x3' x4' x5' x6' b = volumes_volume_step.j2 k x3 x4 x5 x6 x72 x0 x1 x2 x3' x4' x5' x6' b' := by
    intro k
    cases k <;> intros <;> rfl
  have s1 : ∀ k x3 x4 x5 x6 x0 x1 x2 x3' x4' x5' x6', volumes_volume_step.j1 k x3 x4 x5 x6 x0 x1 x2 x3' x4' x5' x6' b = volumes_volume_step.j1 k x3 x4 x5 x6 x0 x1 x2 x3' x4' x5' x6' b' := by
    intro k
    cases k with
    | zero => intros; rfl
    | succ k => intros; simp only [volumes_volume_step.j1, s2]
  have s0 : ∀ k x3 x4 x5 x6 x43 x0 x1 x2 x3' x4' x5' x6', volumes_volume_step.j0 k x3 x4 x5 x6 x43 x0 x1 x2 x3' x4' x5' x6' b = volumes_volume_step.j0 k x3 x4 x5 x6 x43 x0 x1 x2 x3' x4' x5' x6' b' := by
    intro k
    cases k with
    | zero => intros; rfl
    | succ k => intros; simp only [volumes_volume_step.j0, s1]
  have st : ∀ k x0 x1 x2 x3 x4 x5 x6, volumes_volume_step.f k x0 x1 x2 x3 x4 x5 x6 b = volumes_volume_step.f k x0 x1 x2 x3 x4 x5 x6 b' := by
    intros
    simp only [volumes_volume_step.f, s0]
  have cj : ∀ k y x0 x1 x2 x3 x4 x5 x6, volumes_volume_can.j0 k y x0 x1 x2 x3 x4 x5 x6 b = volumes_volume_can.j0 k y x0 x1 x2 x3 x4 x5 x6 b' := by
    intro k
    cases k with
    | zero => intros; rfl
    | succ k => intros; simp only [volumes_volume_can.j0, st]
  simp only [volumes_volume_can.f, cj]
/-- A volume that can be read. -/
structure Good (v : List Int) : Prop where
  byt : isByte v = true
  len : 64 ≤ v.length
  most : v.length ≤ 100000000
  magic : v.take 8 = magicL
  sum : numP (v.drop 60) 4 = crc (v.take 60)
  zero : numP (v.drop 56) 4 = 0
  flag : numP (v.drop 24) 4 ≤ 1
  can : canP v = some true
  size : wrap64 (numP (v.drop 44) 8) = ((v.drop 64).length : Int)
  body : numP (v.drop 52) 4 = crc (v.drop 64)
theorem Good.read {v : List Int} (h : Good v) : volumes_Read.f v = some (numP (v.drop 8) 8, numP (v.drop 16) 4, numP (v.drop 20) 4, (numP (v.drop 24) 4 == 1), wrap64 (numP (v.drop 28) 8), wrap64 (numP (v.drop 36) 8), wrap64 (numP (v.drop 44) 8), v.drop 64, 0) := by
  have hm : magicOk v = true := by unfold magicOk; rw [h.magic]; decide +kernel
  unfold volumes_Read.f
  rw [if_pos h.byt, if_pos h.len, if_pos h.most, if_pos hm, if_pos h.sum, if_pos h.zero, if_pos h.flag, h.can, Option.bind_some, if_pos ⟨rfl, h.size⟩, if_pos h.body]
/-! ### bytes as natural numbers -/
end Go.Proofs.Ytnkcbkfccbfjpaa.Z
/- Read of volumes: its contract. -/
namespace Go.Proofs.Ytnkcbkfccbfjpaa.Z
open Go.RowKit Go.Proofs.Ytnkcbkfccbfjpaa.XxhW Go.Proofs.Ytnkcbkfccbfjpaa.QVolumesCuts Go.Proofs.YtnkcbkfccbfjpaaW.PrintWords Go.Proofs.YtnkcbkfccbfjpaaW.PrintLast Go.Proofs.YtnkcbkfccbfjpaaW.PrintMore
set_option linter.unusedVariables false
set_option linter.unusedSimpArgs false
set_option maxHeartbeats 4000000 in
theorem volumes_Read.calls (A0 : Option Addr) (c0 : Nat) (l0 : List Int) (r1 : Int) (r2 : Int) (r3 : Int) (r4 : Bool) (r5 : Int) (r6 : Int) (r7 : Int) (r8 : List Int) (r9 : Int) (w : World) (hr0 : Kd.C (Kd.int .u8) w A0 l0.length l0) (hc0 : l0.length ≤ c0) (h : volumes_Read.f l0 = some (r1, r2, r3, r4, r5, r6, r7, r8, r9)) :
    Calls Try.prog 38 #[.slice A0 l0.length c0] w fun e w' => ∃ v7_ : Value, e = .returned (.tuple #[.agg #[.int .u64 r1, .int .i64 r2, .int .i64 r3, .bool r4, .int .i64 r5, .int .i64 r6, .int .i64 r7], v7_, .int .i64 r9]) ∧ Kd.R (Kd.int .u8) 5 w' w.heap.size (fun _ => True) v7_ r8 ∧ Below w.heap.size w w' := by
  have hR : ReadsInt w .u8 A0 l0.length l0 := Kd.reads_of_C (enc := Value.int .u8) (d := (0 : Int)) (h1 := fun _ => rfl) hr0
  clear hr0
  unfold volumes_Read.f at h
  by_cases hb : isByte l0 = true
  rotate_left
  · rw [if_neg hb] at h; exact absurd h (by simp)
  by_cases h64 : 64 ≤ l0.length
  rotate_left
  · rw [if_pos hb, if_neg h64] at h; exact absurd h (by simp)
  by_cases hl : l0.length ≤ 100000000
  rotate_left
  · rw [if_pos hb, if_pos h64, if_neg hl] at h; exact absurd h (by simp)
  rw [if_pos hb, if_pos h64, if_pos hl] at h
  have hbq := fun q => isByte_get hb q
  by_cases hm : magicOk l0 = true
  rotate_left
  · rw [if_neg hm] at h
    simp only [Option.some.injEq, Prod.mk.injEq] at h
    obtain ⟨rfl, rfl, rfl, rfl, rfl, rfl, rfl, rfl, rfl⟩ := h
    exact read_refuse A0 c0 l0 w 270 (by decide) fun W hW => get_magic A0 c0 l0 W (hR.below hW) hc0 h64 (by unfold magicOk at hm; simpa using hm)
  rw [if_pos hm] at h
  unfold magicOk at hm
  by_cases hs : numP (l0.drop 60) 4 = crc (l0.take 60)
  rotate_left
  · rw [if_neg hs] at h
    simp only [Option.some.injEq, Prod.mk.injEq] at h
    obtain ⟨rfl, rfl, rfl, rfl, rfl, rfl, rfl, rfl, rfl⟩ := h
    exact read_refuse A0 c0 l0 w 270 (by decide) fun W hW => get_head A0 c0 l0 W (hR.below hW) hc0 h64 hl hbq hm (by rw [beq_eq_false_iff_ne]; exact hs)
  rw [if_pos hs] at h
  by_cases hz : numP (l0.drop 56) 4 = 0
  rotate_left
  · rw [if_neg hz] at h; exact absurd h (by simp)
  rw [if_pos hz] at h
  by_cases hf : numP (l0.drop 24) 4 ≤ 1
  rotate_left
  · rw [if_neg hf] at h; exact absurd h (by simp)
  rw [if_pos hf] at h
  cases hcn : canP l0 with
  | none => rw [hcn] at h; exact absurd h (by simp)
  | some cn =>
    rw [hcn, Option.bind_some] at h
    unfold canP at hcn
    have G := fun (W : World) (hW : Below w.heap.size w W) => get_rest A0 c0 l0 W (hR.below hW) hc0 h64 hl hbq hm hs hz hf _ _ _ _ _ _ _ rfl rfl rfl rfl rfl rfl rfl 10 cn hcn
    by_cases hq : cn = true ∧ wrap64 (numP (l0.drop 44) 8) = ((l0.drop 64).length : Int)
    · rw [if_pos hq] at h
      by_cases hbody : numP (l0.drop 52) 4 = crc (l0.drop 64)
      · rw [if_pos hbody] at h
        simp only [Option.some.injEq, Prod.mk.injEq] at h
        obtain ⟨rfl, rfl, rfl, rfl, rfl, rfl, rfl, rfl, rfl⟩ := h
        exact read_ok A0 c0 l0 w _ _ _ _ _ _ _ (l0.drop 64) (c0 - 64) (by rw [List.length_drop]; omega) fun W hW => (G W hW).mono fun e w' ⟨_, _, h3, hB⟩ => ⟨(h3 hq.1 hq.2 hbody).imp fun A' h => ⟨h.1, h.2 W (hR.below hW)⟩, hB⟩
      · rw [if_neg hbody] at h
        simp only [Option.some.injEq, Prod.mk.injEq] at h
        obtain ⟨rfl, rfl, rfl, rfl, rfl, rfl, rfl, rfl, rfl⟩ := h
        exact read_refuse A0 c0 l0 w 131 (by decide) fun W hW => (G W hW).mono fun e w' ⟨_, h2, _, hB⟩ => ⟨h2 hq.1 hq.2 hbody, hB⟩
    · rw [if_neg hq] at h
      simp only [Option.some.injEq, Prod.mk.injEq] at h
      obtain ⟨rfl, rfl, rfl, rfl, rfl, rfl, rfl, rfl, rfl⟩ := h
      refine read_refuse A0 c0 l0 w 270 (by decide) fun W hW => (G W hW).mono fun e w' ⟨h1, _, _, hB⟩ => ⟨h1 ?_, hB⟩
      cases cn with
      | false => exact .inl rfl
      | true => exact .inr fun h => hq ⟨rfl, h⟩
end Go.Proofs.Ytnkcbkfccbfjpaa.Z
/- Volumes, plain: can always answers. -/
/- get of volumes (f67), whole: what is wrong with bytes, and what a volume says. -/

namespace Go.Proofs.Ytnkcbkfccbfjpaa.Z
open Go.RowKit Go.Proofs.Ytnkcbkfccbfjpaa.XxhW Go.Proofs.Ytnkcbkfccbfjpaa.QVolumesCuts Go.Proofs.YtnkcbkfccbfjpaaW.PrintWords Go.Proofs.YtnkcbkfccbfjpaaW.PrintLast Go.Proofs.YtnkcbkfccbfjpaaW.PrintMore
set_option linter.unusedVariables false
set_option linter.unusedSimpArgs false
/-- What get says is wrong; 0: nothing. -/
def getE (b : List Int) : Int :=
  if b.length < 64 then 270 else if magicOk b = true then (if numP (b.drop 60) 4 = crc (b.take 60) then (if numP (b.drop 56) 4 = 0 then (if 1 < numP (b.drop 24) 4 then 270 else
    if canP b = some true ∧ wrap64 (numP (b.drop 44) 8) = ((b.drop 64).length : Int) then (if numP (b.drop 52) 4 = crc (b.drop 64) then 0 else 131) else 270) else 270) else 270) else 270
set_option maxHeartbeats 4000000 in
theorem get_ok (A : Option Addr) (c : Nat) (b : List Int) (w : World) (hr : ReadsInt w .u8 A b.length b) (hc : b.length ≤ c) (hl : b.length ≤ 100000000) (hb : isByte b = true) (h : getE b = 0) :
    Calls Try.prog 67 #[.slice A b.length c] w fun e w' => Below w.heap.size w w' ∧ ∃ A' : Option Addr, e = .returned (.tuple #[.agg #[.int .u64 (numP (b.drop 8) 8), .int .i64 (numP (b.drop 16) 4), .int .i64 (numP (b.drop 20) 4), .bool (numP (b.drop 24) 4 == 1), .int .i64 (wrap64 (numP (b.drop 28) 8)), .int .i64 (wrap64 (numP (b.drop 36) 8)), .int .i64 (wrap64 (numP (b.drop 44) 8)), .slice A' (b.drop 64).length (c - 64)], .int .i64 0]) ∧ ∀ W : World, ReadsInt W .u8 A b.length b → ReadsInt W .u8 A' (b.drop 64).length (b.drop 64) := by
  have hbq := fun q => isByte_get hb q
  unfold getE at h
  by_cases h64 : b.length < 64
  · rw [if_pos h64] at h; exact absurd h (by decide)
  rw [if_neg h64] at h
  by_cases hm : magicOk b = true
  rotate_left
  · rw [if_neg hm] at h; exact absurd h (by decide)
  rw [if_pos hm] at h
  unfold magicOk at hm
  by_cases hs : numP (b.drop 60) 4 = crc (b.take 60)
  rotate_left
  · rw [if_neg hs] at h; exact absurd h (by decide)
  rw [if_pos hs] at h
  by_cases hz : numP (b.drop 56) 4 = 0
  rotate_left
  · rw [if_neg hz] at h; exact absurd h (by decide)
  rw [if_pos hz] at h
  by_cases hf : 1 < numP (b.drop 24) 4
  · rw [if_pos hf] at h; exact absurd h (by decide)
  rw [if_neg hf] at h
  by_cases hq : canP b = some true ∧ wrap64 (numP (b.drop 44) 8) = ((b.drop 64).length : Int)
  · rw [if_pos hq] at h
    by_cases hbody : numP (b.drop 52) 4 = crc (b.drop 64)
    · have hcn' := hq.1
      unfold canP at hcn'
      exact (get_rest A c b w hr hc (by omega) hl hbq hm hs hz (by omega) _ _ _ _ _ _ _ rfl rfl rfl rfl rfl rfl rfl 10 true hcn').mono fun e w' ⟨_, _, h3, hB⟩ => ⟨hB, h3 rfl hq.2 hbody⟩
    · rw [if_neg hbody] at h; exact absurd h (by decide)
  · rw [if_neg hq] at h; exact absurd h (by decide)
end Go.Proofs.Ytnkcbkfccbfjpaa.Z
/- Volumes: a volume, rows of volumes and of pointers as kinds. -/
namespace Go.Proofs.Ytnkcbkfccbfjpaa.Z
open Go.RowKit Go.Proofs.Ytnkcbkfccbfjpaa.XxhW Go.Proofs.Ytnkcbkfccbfjpaa.QVolumesCuts Go.Proofs.YtnkcbkfccbfjpaaW.PrintWords Go.Proofs.YtnkcbkfccbfjpaaW.PrintLast Go.Proofs.YtnkcbkfccbfjpaaW.PrintMore
set_option linter.unusedVariables false
set_option linter.unusedSimpArgs false
/-- What a volume says, and its bytes. -/
structure Vol where
  set : Int
  num : Int
  cnt : Int
  sp : Bool
  whole : Int
  off : Int
  size : Int
  b : List Int
/-- A volume in memory: where its bytes lie. -/
structure VolC where
  v : Vol
  A : Option Addr
  c : Nat
def zVol : VolC := ⟨⟨0, 0, 0, false, 0, 0, 0, []⟩, none, 0⟩
def VolC.cells (x : VolC) : List Value := [.int .u64 x.v.set, .int .i64 x.v.num, .int .i64 x.v.cnt, .bool x.v.sp, .int .i64 x.v.whole, .int .i64 x.v.off, .int .i64 x.v.size, .slice x.A x.v.b.length x.c]
def stepV (v : Vol) : Int := (volumes_volume_step.f 9 v.set v.num v.cnt v.sp v.whole v.off v.size v.b).getD (-1)
def kV : Kd VolC where
  sz := 8
  E := []
  K := fun _ x cs => cs = x.cells
  M := fun _ _ _ x cs => cs = x.cells
  K_len := fun h => by rw [h]; rfl
  K_one := fun h u hu => by
    subst h
    simp only [VolC.cells, List.mem_cons, List.not_mem_nil, or_false] at hu
    rcases hu with rfl | rfl | rfl | rfl | rfl | rfl | rfl | rfl <;> rfl
  K_below := fun _ h => h
  K_of_M := fun h => h
  M_mono := fun _ h => h
  M_bound := fun h => h
  M_move := fun _ h => h
  M_lower := fun _ h => h
def kP : Kd (Option Addr) := Kd.scalar Value.pointer (fun _ => rfl)
theorem info88 : (Try.prog.info? 88).map (fun i => (i.zero, i.size, i.bytes)) = some (some (.agg #[.int .u64 0, .int .i64 0, .int .i64 0, .bool false, .int .i64 0, .int .i64 0, .int .i64 0, .slice none 0 0]), 8, 80) := by kernel_rfl
theorem info116 : (Try.prog.info? 116).map (fun i => (i.zero, i.size, i.bytes)) = some (some (.pointer none), 1, 8) := by kernel_rfl
/-- The cells of an element of a row of volumes. -/
structure VAt (w : World) (ad : Addr) (x : VolC) : Prop where
  c0 : w.cell? ad = some (.int .u64 x.v.set)
  c1 : w.cell? ⟨ad.block, ad.off + 1, none⟩ = some (.int .i64 x.v.num)
  c2 : w.cell? ⟨ad.block, ad.off + 2, none⟩ = some (.int .i64 x.v.cnt)
  c3 : w.cell? ⟨ad.block, ad.off + 3, none⟩ = some (.bool x.v.sp)
  c4 : w.cell? ⟨ad.block, ad.off + 4, none⟩ = some (.int .i64 x.v.whole)
  c5 : w.cell? ⟨ad.block, ad.off + 5, none⟩ = some (.int .i64 x.v.off)
  c6 : w.cell? ⟨ad.block, ad.off + 6, none⟩ = some (.int .i64 x.v.size)
  c7 : w.cell? ⟨ad.block, ad.off + 7, none⟩ = some (.slice x.A x.v.b.length x.c)
theorem at_V {w : World} {A : Option Addr} {n : Nat} {xs : List VolC} (h : Kd.C kV w A n xs) (i : Nat) (h1 : i < n) : ∃ ad, A = some ad ∧ VAt w (ad.add (i * 8)) (xs.getD i zVol) := by
  obtain ⟨ad, c, e, _, hK, hc0⟩ := Kd.C_get h zVol (i : Int) (by omega) (by omega)
  have hc : ∀ j u, c[j]? = some u → w.cell? (ad.add (i * 8 + j)) = some u := hc0
  have hK' : c = (xs.getD i zVol).cells := hK
  subst hK'
  refine ⟨ad, e, hc 0 _ rfl, ?_, ?_, ?_, ?_, ?_, ?_, ?_⟩
  · have h := hc 1 _ rfl
    rwa [add_field _ _ 1 (by omega)] at h
  · have h := hc 2 _ rfl
    rwa [add_field _ _ 2 (by omega)] at h
  · have h := hc 3 _ rfl
    rwa [add_field _ _ 3 (by omega)] at h
  · have h := hc 4 _ rfl
    rwa [add_field _ _ 4 (by omega)] at h
  · have h := hc 5 _ rfl
    rwa [add_field _ _ 5 (by omega)] at h
  · have h := hc 6 _ rfl
    rwa [add_field _ _ 6 (by omega)] at h
  · have h := hc 7 _ rfl
    rwa [add_field _ _ 7 (by omega)] at h
/-- Where the volumes' bytes lie: in elder memory. -/
def Views (w : World) (cs : List VolC) : Prop := ∀ x ∈ cs, ReadsInt w .u8 x.A x.v.b.length x.v.b ∧ x.v.b.length ≤ x.c ∧ x.v.b.length ≤ 100000000 ∧ ∀ q ∈ x.v.b, 0 ≤ q ∧ q < 256
theorem step_callsV {w W : World} {cs : List VolC} (h : Views w cs) (x : VolC) (hx : x ∈ cs) (s : Int) (hs : volumes_volume_step.f 9 x.v.set x.v.num x.v.cnt x.v.sp x.v.whole x.v.off x.v.size x.v.b = some s) (hb : Below w.heap.size w W) :
    Calls Try.prog 92 #[.agg #[.int .u64 x.v.set, .int .i64 x.v.num, .int .i64 x.v.cnt, .bool x.v.sp, .int .i64 x.v.whole, .int .i64 x.v.off, .int .i64 x.v.size, .slice x.A x.v.b.length x.c]] W fun e w' => e = .returned (.int .i64 s) ∧ Below W.heap.size W w' :=
  volumes_volume_step.calls 9 x.v.set x.v.num x.v.cnt x.v.sp x.v.whole x.v.off x.v.size x.A x.c x.v.b s W (Kd.C_of_reads (enc := Value.int .u8) (d := (0 : Int)) (h1 := fun _ => rfl) ((h x hx).1.below hb)) (h x hx).2.1 hs
theorem strs_inj : ∀ (x b : List Int), (∀ q ∈ x, 0 ≤ q ∧ q < 256) → (∀ q ∈ b, 0 ≤ q ∧ q < 256) → Lib.bytesOf x = Lib.bytesOf b → x = b := by
  intro x
  induction x with
  | nil =>
    intro b _ _ h
    cases b with
    | nil => rfl
    | cons c b => simp [Lib.bytesOf] at h
  | cons c x ih =>
    intro b hx hb h
    cases b with
    | nil => simp [Lib.bytesOf] at h
    | cons d b =>
      simp only [Lib.bytesOf, List.map_cons, List.cons.injEq] at h
      have h1 := congrArg UInt8.toNat h.1
      rw [UInt8.toNat_ofNat', UInt8.toNat_ofNat'] at h1
      have h2 := ih b (fun q hq => hx q (by simp [hq])) (fun q hq => hb q (by simp [hq])) h.2
      have hc := hx c (by simp)
      have hd := hb d (by simp)
      have h3 : c = d := by omega
      rw [h2, h3]
set_option maxHeartbeats 4000000 in
set_option maxRecDepth 100000 in
theorem equal_calls (A0 : Option Addr) (c0 : Nat) (l0 : List Int) (A1 : Option Addr) (c1 : Nat) (l1 : List Int) (w : World) (hr0 : ReadsInt w .u8 A0 l0.length l0) (hr1 : ReadsInt w .u8 A1 l1.length l1) (h0 : ∀ q ∈ l0, 0 ≤ q ∧ q < 256) (h1 : ∀ q ∈ l1, 0 ≤ q ∧ q < 256) :
    Calls Try.prog 93 #[.slice A0 l0.length c0, .slice A1 l1.length c1] w fun e w' => e = .returned (.bool (decide (l0 = l1))) ∧ Below w.heap.size w w' := by
  have hcv3 := string_of_reads (P := Try.prog) (A := A0) (c := c0) Try.underlying22 Try.underlying5 Try.underlying9 hr0
  have hcv4 := string_of_reads (P := Try.prog) (A := A1) (c := c1) Try.underlying22 Try.underlying5 Try.underlying9 hr1
  have hd : decide (l0 = l1) = ((strOfNums l0).toList == (strOfNums l1).toList) := by
    by_cases e : l0 = l1
    · rw [e]; simp
    · rw [decide_eq_false e]
      symm
      rw [beq_eq_false_iff_ne, Lib.strOfNums_toList, Lib.strOfNums_toList]
      exact fun h => e (strs_inj _ _ h0 h1 h)
  rw [hd]
  clear hd h0 h1 hr0 hr1
  have HB := Aside0.mk (Below.refl w.heap.size w)
  go_enter Try.func93, Try.ntmps93
  go_wp2
  go_ret
  exact ⟨by first | rfl | (simp; done) | (simp [*]; done), by repeat (first | exact HB.out | apply below_alloc | apply pw_below_drewN | apply below_drew1)⟩
def firstE (gE : List Int → Int) : List (List Int) → Int
  | [] => 0
  | b :: l => if gE b = 0 then firstE gE l else gE b
theorem firstE_zero (gE : List Int → Int) : ∀ L : List (List Int), (∀ b ∈ L, gE b = 0) → firstE gE L = 0
  | [], _ => rfl
  | b :: l, h => by unfold firstE; rw [if_pos (h b (by simp))]; exact firstE_zero gE l (fun c hc => h c (by simp [hc]))
theorem firstE_ok (gE : List Int → Int) : ∀ L : List (List Int), firstE gE L = 0 → ∀ b ∈ L, gE b = 0
  | [], _, b, h => absurd h (by simp)
  | a :: l, h, b, hb => by
    unfold firstE at h
    by_cases ha : gE a = 0
    · rw [if_pos ha] at h
      rcases List.mem_cons.1 hb with rfl | hb
      · exact ha
      · exact firstE_ok gE l h b hb
    · rw [if_neg ha] at h
      exact absurd h ha
/-- Do volumes belong together. -/
def agree (v0 v : Vol) : Bool := v.set == v0.set && v.cnt == v0.cnt && v.whole == v0.whole && stepV v == stepV v0
def slot (P : List (Option (List Int))) (k : Nat) : Option (List Int) := P.getD k none
/-- The slots, by numbers. -/
def fillAll (v0 : Vol) : List Vol → List (Option (List Int)) → Option (List (Option (List Int)))
  | [], P => some P
  | v :: l, P => if agree v0 v = true ∧ (slot P v.num.toNat = none ∨ slot P v.num.toNat = some v.b) then fillAll v0 l (P.set v.num.toNat (some v.b)) else none
def gatherR (gE : List Int → Int) (vO : List Int → Vol) (L : List (List Int)) : Int × Vol × List (Option (List Int)) :=
  if firstE gE L = 0 then
    match L.map vO with
    | [] => (272, zVol.v, [])
    | v0 :: l => match fillAll v0 (v0 :: l) (List.replicate (v0.cnt.toNat + 1) none) with
      | none => (271, zVol.v, [])
      | some P => (0, v0, P)
  else (firstE gE L, zVol.v, [])
/-- What gather leaves: a set's volumes. -/
structure Whole (w W : World) (gw : Nat) (v0 : Vol) (P : List (Option (List Int))) : Prop where
  le : w.heap.size ≤ gw
  row : ∃ gl cap ps, W.heap[gw]? = some (.cells #[.int .u64 v0.set, .int .i64 v0.num, .int .i64 v0.cnt, .bool v0.sp, .int .i64 v0.whole, .int .i64 v0.off, .int .i64 v0.size, .int .i64 (stepV v0), .slice (some ⟨gl, 0, none⟩) (v0.cnt.toNat + 1) cap] 119 (0, 0)) ∧
    Kd.R kP 116 W w.heap.size (fun _ => True) (.slice (some ⟨gl, 0, none⟩) (v0.cnt.toNat + 1) cap) ps ∧ P.length = v0.cnt.toNat + 1 ∧
    ∀ k, k < v0.cnt.toNat + 1 → (ps.getD k none = none ∧ slot P k = none) ∨ ∃ ad x, ps.getD k none = some ad ∧ slot P k = some x.v.b ∧ VAt W ad x ∧ w.heap.size ≤ ad.block ∧ ad.block ≠ gl ∧ ad.block ≠ gw ∧ ReadsInt w .u8 x.A x.v.b.length x.v.b ∧ x.v.b.length ≤ x.c ∧ x.v.b.length ≤ 100000000 ∧ ∀ q ∈ x.v.b, 0 ≤ q ∧ q < 256
end Go.Proofs.Ytnkcbkfccbfjpaa.Z
/- Volumes, plain: what a volume that can be read says of its places. -/
namespace Go.Proofs.Ytnkcbkfccbfjpaa.Z
open Go.RowKit Go.Proofs.Ytnkcbkfccbfjpaa.XxhW Go.Proofs.Ytnkcbkfccbfjpaa.QVolumesCuts Go.Proofs.YtnkcbkfccbfjpaaW.PrintWords Go.Proofs.YtnkcbkfccbfjpaaW.PrintLast Go.Proofs.YtnkcbkfccbfjpaaW.PrintMore
set_option linter.unusedVariables false
set_option linter.unusedSimpArgs false
def volOf (b : List Int) : Vol := ⟨numP (b.drop 8) 8, numP (b.drop 16) 4, numP (b.drop 20) 4, numP (b.drop 24) 4 == 1, wrap64 (numP (b.drop 28) 8), wrap64 (numP (b.drop 36) 8), wrap64 (numP (b.drop 44) 8), b.drop 64⟩
/-- What a volume says can be, with a step. -/
structure VolOk (v : Vol) (s : Int) : Prop where
  cnt : 1 ≤ v.cnt ∧ v.cnt ≤ 1000
  whole : 0 ≤ v.whole ∧ v.whole ≤ 4194304
  num : 0 ≤ v.num ∧ v.num ≤ v.cnt
  sp : v.sp = (v.num == v.cnt)
  size : v.size = (v.b.length : Int) ∧ v.size ≤ 4194304
  step : volumes_volume_step.f 9 v.set v.num v.cnt v.sp v.whole v.off v.size v.b = some s
  one : v.cnt = 1 → s = 0 ∧ v.size = v.whole ∧ v.off = 0
  more : v.cnt ≠ 1 → 1 ≤ s ∧ s ≤ v.whole ∧ (v.cnt - 1) * s < v.whole ∧ v.whole ≤ v.cnt * s ∧ (v.num = v.cnt → v.size = s ∧ v.off = 0) ∧ (v.num = v.cnt - 1 → v.size = v.whole - s * v.num ∧ v.off = s * v.num) ∧ (v.num < v.cnt - 1 → v.size = s ∧ v.off = s * v.num)
theorem count_nat (len s : Nat) (hs : 1 ≤ s) (hs2 : s ≤ 4194304) (hl : len ≤ 4194304) : volumes_count.f (len : Int) (s : Int) = some ((max 1 ((len + s - 1) / s) : Nat) : Int) := by
  unfold volumes_count.f
  have e1 : wrap64 ((len : Int) + (s : Int)) = ((len + s : Nat) : Int) := by rw [show (len : Int) + (s : Int) = ((len + s : Nat) : Int) by omega]; exact XxhW.wrap_small _ (by omega)
  have e2 : wrap64 (((len + s : Nat) : Int) - 1) = ((len + s - 1 : Nat) : Int) := by rw [show ((len + s : Nat) : Int) - 1 = ((len + s - 1 : Nat) : Int) by omega]; exact XxhW.wrap_small _ (by omega)
  have e3 : Int.tdiv ((len + s - 1 : Nat) : Int) (s : Int) = (((len + s - 1) / s : Nat) : Int) := by rw [Int.tdiv_eq_ediv_of_nonneg (by omega)]; rfl
  have h4 : (len + s - 1) / s ≤ len + s - 1 := Nat.div_le_self _ _
  rw [if_neg (by omega), e1, e2, e3, XxhW.wrap_small _ (by omega)]
  exact congrArg some (mx_nat 1 _)
theorem J2_facts (k : Nat) (a1 a2 a3 a4 : Int) (a5 : Bool) (b0 b1 b2 : Int) (b3 : Bool) (b4 b5 b6 : Int) (b : List Int) (r : Int) (h : volumes_volume_step.j2 (k + 1) a1 a2 a3 a4 a5 b0 b1 b2 b3 b4 b5 b6 b = some r) (hr : 0 ≤ r) :
    a5 = false ∧ r = a4 ∧ (b3 = true → a2 = a4 ∧ a3 = 0) ∧ (b3 = false → b1 = wrap64 (b2 - 1) → a2 = wrap64 (a1 - wrap64 (a4 * b1)) ∧ a3 = wrap64 (a4 * b1)) ∧ (b3 = false → b1 ≠ wrap64 (b2 - 1) → a2 = a4 ∧ a3 = wrap64 (a4 * b1)) := by
  rw [volumes_volume_step.j2] at h
  have bad : ¬ (some (-1 : Int) = some r) := by intro h; injection h with h; omega
  by_cases c1 : a5 = true
  · rw [if_pos c1] at h; exact absurd h bad
  rw [if_neg c1] at h
  have c1' : a5 = false := by simpa using c1
  by_cases c2 : b3 = true
  · rw [if_pos c2] at h
    by_cases c3 : a2 = a4
    · rw [if_pos c3] at h
      by_cases c4 : a3 = 0
      · rw [if_pos c4] at h
        injection h with h
        exact ⟨c1', h.symm, fun _ => ⟨c3, c4⟩, fun h => absurd (c2.symm.trans h) (by decide), fun h => absurd (c2.symm.trans h) (by decide)⟩
      · rw [if_neg c4] at h; exact absurd h bad
    · rw [if_neg c3] at h; exact absurd h bad
  rw [if_neg c2] at h
  by_cases c3 : b1 = wrap64 (b2 - 1)
  · rw [if_pos c3] at h
    by_cases c4 : a2 = wrap64 (a1 - wrap64 (a4 * b1))
    · rw [if_pos c4] at h
      by_cases c5 : a3 = wrap64 (a4 * b1)
      · rw [if_pos c5] at h
        injection h with h
        exact ⟨c1', h.symm, fun h => absurd h c2, fun _ _ => ⟨c4, c5⟩, fun _ h => absurd c3 h⟩
      · rw [if_neg c5] at h; exact absurd h bad
    · rw [if_neg c4] at h; exact absurd h bad
  · rw [if_neg c3] at h
    by_cases c4 : a2 = a4
    · rw [if_pos c4] at h
      by_cases c5 : a3 = wrap64 (a4 * b1)
      · rw [if_pos c5] at h
        injection h with h
        exact ⟨c1', h.symm, fun h => absurd h c2, fun _ h => absurd h c3, fun _ _ => ⟨c4, c5⟩⟩
      · rw [if_neg c5] at h; exact absurd h bad
    · rw [if_neg c4] at h; exact absurd h bad
theorem J1_facts (k : Nat) (a1 a2 a3 a4 b0 b1 b2 : Int) (b3 : Bool) (b4 b5 b6 : Int) (b : List Int) (r : Int) (h : volumes_volume_step.j1 (k + 2) a1 a2 a3 a4 b0 b1 b2 b3 b4 b5 b6 b = some r) (hr : 0 ≤ r) :
    r = a4 ∧ 1 ≤ a4 ∧ a4 ≤ a1 ∧ volumes_count.f a1 a4 = some b2 ∧ (b3 = true → a2 = a4 ∧ a3 = 0) ∧ (b3 = false → b1 = wrap64 (b2 - 1) → a2 = wrap64 (a1 - wrap64 (a4 * b1)) ∧ a3 = wrap64 (a4 * b1)) ∧ (b3 = false → b1 ≠ wrap64 (b2 - 1) → a2 = a4 ∧ a3 = wrap64 (a4 * b1)) := by
  rw [volumes_volume_step.j1] at h
  by_cases c1 : a4 < 1
  · rw [if_pos c1] at h; exact absurd (J2_facts _ _ _ _ _ _ _ _ _ _ _ _ _ _ _ h hr).1 (by decide)
  rw [if_neg c1] at h
  by_cases c2 : a4 > a1
  · rw [if_pos c2] at h; exact absurd (J2_facts _ _ _ _ _ _ _ _ _ _ _ _ _ _ _ h hr).1 (by decide)
  rw [if_neg c2] at h
  cases hc : volumes_count.f a1 a4 with
  | none => rw [hc] at h; exact absurd h (by simp)
  | some t =>
    rw [hc, Option.bind_some] at h
    obtain ⟨q1, q2, q3, q4, q5⟩ := J2_facts _ _ _ _ _ _ _ _ _ _ _ _ _ _ _ h hr
    have : t = b2 := by simpa using q1
    exact ⟨q2, by omega, by omega, by rw [this], q3, q4, q5⟩
theorem step_facts (k : Nat) (x0 x1 x2 : Int) (x3 : Bool) (x4 x5 x6 : Int) (b : List Int) (r : Int) (h : volumes_volume_step.f (k + 3) x0 x1 x2 x3 x4 x5 x6 b = some r) (hr : 0 ≤ r) (h1 : 0 ≤ x1 ∧ x1 ≤ x2) (h2 : 1 ≤ x2 ∧ x2 ≤ 1000) (h3 : x3 = (x1 == x2)) (h4 : 0 ≤ x4 ∧ x4 ≤ 4194304) (h5 : 0 ≤ x5 ∧ x5 ≤ 4194304) (h6 : 0 ≤ x6 ∧ x6 ≤ 4194304) :
    (x2 = 1 → r = 0 ∧ x6 = x4 ∧ x5 = 0) ∧ (x2 ≠ 1 → 1 ≤ r ∧ r ≤ x4 ∧ (x2 - 1) * r < x4 ∧ x4 ≤ x2 * r ∧ (x1 = x2 → x6 = r ∧ x5 = 0) ∧ (x1 = x2 - 1 → x6 = x4 - r * x1 ∧ x5 = r * x1) ∧ (x1 < x2 - 1 → x6 = r ∧ x5 = r * x1)) := by
  have bad : ¬ (some (-1 : Int) = some r) := by intro h; injection h with h; omega
  have hw : wrap64 (x2 - 1) = x2 - 1 := IntWalk.wrap64_in _ (by omega)
  unfold volumes_volume_step.f at h
  by_cases c1 : x2 = 1
  · rw [if_pos c1] at h
    by_cases c2 : x6 = x4
    · rw [if_pos c2] at h
      by_cases c3 : x5 = 0
      · rw [if_pos c3] at h
        injection h with h
        exact ⟨fun _ => ⟨h.symm, c2, c3⟩, fun h => absurd c1 h⟩
      · rw [if_neg c3] at h; exact absurd h bad
    · rw [if_neg c2] at h; exact absurd h bad
  rw [if_neg c1] at h
  refine ⟨fun h => absurd h c1, fun _ => ?_⟩
  have M : ∀ a4, volumes_volume_step.j1 (k + 2) x4 x6 x5 a4 x0 x1 x2 x3 x4 x5 x6 b = some r → 1 ≤ r ∧ r ≤ x4 ∧ (x2 - 1) * r < x4 ∧ x4 ≤ x2 * r ∧ (x1 = x2 → x6 = r ∧ x5 = 0) ∧ (x1 = x2 - 1 → x6 = x4 - r * x1 ∧ x5 = r * x1) ∧ (x1 < x2 - 1 → x6 = r ∧ x5 = r * x1) := by
    intro a4 h
    obtain ⟨q1, q2, q3, q4, q5, q6, q7⟩ := J1_facts _ _ _ _ _ _ _ _ _ _ _ _ _ _ h hr
    subst q1
    rw [hw] at q6 q7
    have hp : 0 ≤ r * x1 ∧ r * x1 ≤ 4194304 * 1000 := ⟨Int.mul_nonneg (by omega) (by omega), Int.mul_le_mul (by omega) (by omega) (by omega) (by omega)⟩
    have hwp : wrap64 (r * x1) = r * x1 := IntWalk.wrap64_in _ (by omega)
    rw [hwp] at q6 q7
    have hwm : wrap64 (x4 - r * x1) = x4 - r * x1 := IntWalk.wrap64_in _ (by omega)
    rw [hwm] at q6
    clear hw hwp hwm
    have cn : (x2 - 1) * r < x4 ∧ x4 ≤ x2 * r := by
      obtain ⟨len, rfl⟩ : ∃ n : Nat, x4 = (n : Int) := ⟨x4.toNat, by omega⟩
      obtain ⟨s, rfl⟩ : ∃ n : Nat, r = (n : Int) := ⟨r.toNat, by omega⟩
      obtain ⟨n, rfl⟩ : ∃ n : Nat, x2 = (n : Int) := ⟨x2.toNat, by omega⟩
      rw [count_nat len s (by omega) (by omega) (by omega)] at q4
      injection q4 with q4
      have hn : n = max 1 ((len + s - 1) / s) := by omega
      obtain ⟨f1, f2, _⟩ := cnt_facts len s n (by omega) hn
      have f3 := f2 (by omega)
      refine ⟨?_, ?_⟩
      · rw [show (n : Int) - 1 = ((n - 1 : Nat) : Int) by omega, ← Int.natCast_mul]; omega
      · rw [← Int.natCast_mul]; omega
    have e3 : ∀ p : Bool, x3 = p ↔ (x1 == x2) = p := fun p => by rw [h3]
    refine ⟨q2, q3, cn.1, cn.2, fun e => ?_, fun e => ?_, fun e => ?_⟩
    · exact q5 ((e3 true).2 (by simp [e]))
    · exact q6 ((e3 false).2 (by rw [beq_eq_false_iff_ne]; omega)) e
    · exact q7 ((e3 false).2 (by rw [beq_eq_false_iff_ne]; omega)) (by omega)
  by_cases c2 : x3 = true
  · rw [if_pos c2, volumes_volume_step.j0, if_neg (by decide)] at h
    exact M _ h
  rw [if_neg c2, volumes_volume_step.j0] at h
  by_cases c3 : (x1 == wrap64 (x2 - 1)) = true
  · rw [if_pos c3, hw, if_neg (by omega)] at h
    by_cases c4 : Int.tmod x5 (x2 - 1) = 0
    · rw [if_pos c4] at h
      exact M _ h
    · rw [if_neg c4] at h; exact absurd h bad
  · rw [if_neg c3] at h
    exact M _ h
theorem ok_of_can (b : List Int) (hc : canP b = some true) (hz : wrap64 (numP (b.drop 44) 8) = ((b.drop 64).length : Int)) : VolOk (volOf b) (Z.stepV (volOf b)) := by
  unfold canP at hc
  have key : ∀ (x0 x1 x2 : Int) (x3 : Bool) (x4 x5 x6 : Int) (l : List Int), volumes_volume_can.f 10 x0 x1 x2 x3 x4 x5 x6 l = some true → x6 = (l.length : Int) → VolOk ⟨x0, x1, x2, x3, x4, x5, x6, l⟩ (Z.stepV ⟨x0, x1, x2, x3, x4, x5, x6, l⟩) := by
    intro x0 x1 x2 x3 x4 x5 x6 l h hz
    have bad : ¬ (some false = some true) := by decide
    have J : volumes_volume_can.j0 10 true x0 x1 x2 x3 x4 x5 x6 l = some false := by rw [volumes_volume_can.j0, if_pos rfl]
    unfold volumes_volume_can.f at h
    by_cases c1 : x2 < 1
    · rw [if_pos c1, J] at h; exact absurd h bad
    rw [if_neg c1] at h
    by_cases c2 : x2 > 1000
    · rw [if_pos c2, J] at h; exact absurd h bad
    rw [if_neg c2] at h
    by_cases c3 : x4 < 0
    · rw [if_pos c3, J] at h; exact absurd h bad
    rw [if_neg c3] at h
    by_cases c4 : x4 > 4194304
    · rw [if_pos c4, J] at h; exact absurd h bad
    rw [if_neg c4] at h
    by_cases c5 : x6 < 0
    · rw [if_pos c5, J] at h; exact absurd h bad
    rw [if_neg c5] at h
    by_cases c6 : x6 > 4194304
    · rw [if_pos c6, J] at h; exact absurd h bad
    rw [if_neg c6] at h
    by_cases c7 : x5 < 0
    · rw [if_pos c7, J] at h; exact absurd h bad
    rw [if_neg c7] at h
    by_cases c8 : x5 > 4194304
    · rw [decide_eq_true c8, J] at h; exact absurd h bad
    rw [decide_eq_false c8, volumes_volume_can.j0, if_neg (by decide)] at h
    by_cases c9 : (x3 != (x1 == x2)) = true
    · rw [if_pos c9] at h; exact absurd h bad
    rw [if_neg c9] at h
    by_cases c10 : x1 < 0
    · rw [if_pos c10] at h; exact absurd h bad
    rw [if_neg c10] at h
    by_cases c11 : x1 > x2
    · rw [if_pos c11] at h; exact absurd h bad
    rw [if_neg c11] at h
    cases hs : volumes_volume_step.f 9 x0 x1 x2 x3 x4 x5 x6 l with
    | none => rw [hs] at h; exact absurd h (by simp)
    | some r =>
      rw [hs, Option.bind_some] at h
      have hr : 0 ≤ r := by simpa using h
      have h3 : x3 = (x1 == x2) := by simpa using c9
      have hv : Z.stepV ⟨x0, x1, x2, x3, x4, x5, x6, l⟩ = r := by unfold Z.stepV; rw [hs]; rfl
      obtain ⟨g1, g2⟩ := step_facts 6 x0 x1 x2 x3 x4 x5 x6 l r hs hr (by omega) (by omega) h3 (by omega) (by omega) (by omega)
      rw [hv]
      exact ⟨by dsimp only; omega, by dsimp only; omega, by dsimp only; omega, h3, ⟨hz, by dsimp only; omega⟩, hs, g1, g2⟩
  exact key _ _ _ _ _ _ _ _ hc hz
/-- Where get finds nothing wrong: what the volume says can be. -/
theorem getE_ok {b : List Int} (h : getE b = 0) : VolOk (volOf b) (Z.stepV (volOf b)) := by
  unfold getE at h
  by_cases h1 : b.length < 64
  · rw [if_pos h1] at h; exact absurd h (by decide)
  rw [if_neg h1] at h
  by_cases h2 : magicOk b = true
  · rw [if_pos h2] at h
    by_cases h3 : numP (b.drop 60) 4 = crc (b.take 60)
    · rw [if_pos h3] at h
      by_cases h4 : numP (b.drop 56) 4 = 0
      · rw [if_pos h4] at h
        by_cases h5 : 1 < numP (b.drop 24) 4
        · rw [if_pos h5] at h; exact absurd h (by decide)
        rw [if_neg h5] at h
        by_cases h6 : canP b = some true ∧ wrap64 (numP (b.drop 44) 8) = ((b.drop 64).length : Int)
        · exact ok_of_can b h6.1 h6.2
        · rw [if_neg h6] at h; exact absurd h (by decide)
      · rw [if_neg h4] at h; exact absurd h (by decide)
    · rw [if_neg h3] at h; exact absurd h (by decide)
  · rw [if_neg h2] at h; exact absurd h (by decide)
theorem Good.getE {b : List Int} (h : Good b) : Z.getE b = 0 := by
  have hm : magicOk b = true := by unfold magicOk; rw [h.magic]; decide +kernel
  unfold Z.getE
  rw [if_neg (by have := h.len; omega), if_pos hm, if_pos h.sum, if_pos h.zero, if_neg (by have := h.flag; omega), if_pos ⟨h.can, h.size⟩, if_pos h.body]
end Go.Proofs.Ytnkcbkfccbfjpaa.Z
