/- reset of the state of XxhDigests. -/
import Derived.Test.YtnkcbkfccbfjpaaUb
namespace Go.Proofs.Ytnkcbkfccbfjpaa.XxhW
open Go.RowKit Go.Proofs.YtnkcbkfccbfjpaaW.PrintWords Go.Proofs.YtnkcbkfccbfjpaaW.PrintLast Go.Proofs.YtnkcbkfccbfjpaaW.PrintMore
set_option linter.unusedVariables false
set_option linter.unusedSimpArgs false
theorem results_tmp4 {fn : Func} {t u v x : Tmp} (h : fn.results = #[.tmp t, .tmp u, .tmp v, .tmp x]) (tmps : Array Value) (P : Program) (w : World) :
    (results fn tmps).run P w = .ok (.tuple #[tmps.getD t undef, tmps.getD u undef, tmps.getD v undef, tmps.getD x undef]) w := by
  simp [results, h]
theorem foot_new32 {B g : Nat} {s : Int} {l : List Int} {i : Nat} (h : (res32 B g s l (.slice none 0 0)).foot i) : i = g := by
  rcases h with h | h
  · exact h
  · cases (show some i = none from h)
theorem foot_new64 {B g : Nat} {s : Int} {l : List Int} {i : Nat} (h : (res64 B g s l (.slice none 0 0)).foot i) : i = g := by
  rcases h with h | h
  · exact h
  · cases (show some i = none from h)
set_option maxHeartbeats 8000000 in
set_option maxRecDepth 100000 in
theorem reset0 (w0 w : World) (gs : Nat) (seed wide : Int) (ga gb gc gd : Nat) (ra rb rc rd t0 t1 t2 t3 : Value) (la lb lc ld : List Int) (hS : Sep w0 w (listS w0.heap.size gs seed wide ⟨ga, gb, gc, gd, ra, rb, rc, rd, t0, t1, t2, t3⟩ la lb lc ld)) (hw : W64 seed) :
    Calls Try.prog 36 #[.pointer (some ⟨gs, 0, none⟩), .int .i64 0] w fun e w' => e = .returned (.tuple #[.pointer (some ⟨ga, 0, none⟩), .pointer (some ⟨gb, 0, none⟩), .pointer (some ⟨gc, 0, none⟩), .pointer (some ⟨gd, 0, none⟩)]) ∧
      Sep w0 w' ((listS w0.heap.size gs seed wide ⟨ga, gb, gc, gd, ra, rb, rc, rd, t0, t1, t2, t3⟩ la lb lc ld).set 1 (res32 w0.heap.size ga (seed % 4294967296) [] (.slice none 0 0))) := by
  have HC := Aside0.mk (Reset32_calls la ga w0.heap.size ra (seed % 4294967296) w (w32_mod seed) (res32_d (hS.h _ (List.mem_cons_of_mem _ (List.mem_cons_self)))))
  have HS := Aside0.mk hS
  have p0 : w.cell? ⟨gs, 0, none⟩ = some (.pointer (some ⟨ga, 0, none⟩)) := cell_of_row w gs 0 _ 57 (0, 0) (hS.h _ List.mem_cons_self)
  have p1 : w.cell? ⟨gs, 1, none⟩ = some (.pointer (some ⟨gb, 0, none⟩)) := cell_of_row w gs 1 _ 57 (0, 0) (hS.h _ List.mem_cons_self)
  have p2 : w.cell? ⟨gs, 2, none⟩ = some (.pointer (some ⟨gc, 0, none⟩)) := cell_of_row w gs 2 _ 57 (0, 0) (hS.h _ List.mem_cons_self)
  have p3 : w.cell? ⟨gs, 3, none⟩ = some (.pointer (some ⟨gd, 0, none⟩)) := cell_of_row w gs 3 _ 57 (0, 0) (hS.h _ List.mem_cons_self)
  clear hS hw
  go_enter Try.func36, Try.ntmps36
  go_upto_region 9 with (go_at_call 63; refine HC.out.mono ?_; rintro e w1 ⟨rfl, hd, hf⟩; have HS1 := Aside0.mk (HS.out.upd 1 _ (res32 w0.heap.size ga (seed % 4294967296) [] (.slice none 0 0)) rfl (d_res32 (hd.lower HS.out.B.size)) (hf.mono (fun i _ hi e => hi (.inl e))) (fun i hi => .inl (.inl (foot_new32 hi)))); clear hd hf)
  clear HC HS p0 p1 p2 p3
  have p0 : w1.cell? ⟨gs, 0, none⟩ = some (.pointer (some ⟨ga, 0, none⟩)) := cell_of_row w1 gs 0 _ 57 (0, 0) (HS1.out.h _ List.mem_cons_self)
  have p1 : w1.cell? ⟨gs, 1, none⟩ = some (.pointer (some ⟨gb, 0, none⟩)) := cell_of_row w1 gs 1 _ 57 (0, 0) (HS1.out.h _ List.mem_cons_self)
  have p2 : w1.cell? ⟨gs, 2, none⟩ = some (.pointer (some ⟨gc, 0, none⟩)) := cell_of_row w1 gs 2 _ 57 (0, 0) (HS1.out.h _ List.mem_cons_self)
  have p3 : w1.cell? ⟨gs, 3, none⟩ = some (.pointer (some ⟨gd, 0, none⟩)) := cell_of_row w1 gs 3 _ 57 (0, 0) (HS1.out.h _ List.mem_cons_self)
  go_quiet (fail)
  go_wp2
  ((try simp only [Exit.inBlock, Exit.then]); refine bodyPost_ret (results_tmp4 rfl _ _ _) rfl ?_)
  exact ⟨rfl, HS1.out.drewN nq⟩
set_option maxHeartbeats 8000000 in
set_option maxRecDepth 100000 in
theorem reset1 (w0 w : World) (gs : Nat) (seed wide : Int) (ga gb gc gd : Nat) (ra rb rc rd t0 t1 t2 t3 : Value) (la lb lc ld : List Int) (hS : Sep w0 w (listS w0.heap.size gs seed wide ⟨ga, gb, gc, gd, ra, rb, rc, rd, t0, t1, t2, t3⟩ la lb lc ld)) (hw : W64 wide) :
    Calls Try.prog 36 #[.pointer (some ⟨gs, 0, none⟩), .int .i64 1] w fun e w' => e = .returned (.tuple #[.pointer (some ⟨ga, 0, none⟩), .pointer (some ⟨gb, 0, none⟩), .pointer (some ⟨gc, 0, none⟩), .pointer (some ⟨gd, 0, none⟩)]) ∧
      Sep w0 w' ((listS w0.heap.size gs seed wide ⟨ga, gb, gc, gd, ra, rb, rc, rd, t0, t1, t2, t3⟩ la lb lc ld).set 2 (res32 w0.heap.size gb (wide % 4294967296) [] (.slice none 0 0))) := by
  have HC := Aside0.mk (Reset32_calls lb gb w0.heap.size rb (wide % 4294967296) w (w32_mod wide) (res32_d (hS.h _ (List.mem_cons_of_mem _ (List.mem_cons_of_mem _ (List.mem_cons_self))))))
  have HS := Aside0.mk hS
  have p0 : w.cell? ⟨gs, 0, none⟩ = some (.pointer (some ⟨ga, 0, none⟩)) := cell_of_row w gs 0 _ 57 (0, 0) (hS.h _ List.mem_cons_self)
  have p1 : w.cell? ⟨gs, 1, none⟩ = some (.pointer (some ⟨gb, 0, none⟩)) := cell_of_row w gs 1 _ 57 (0, 0) (hS.h _ List.mem_cons_self)
  have p2 : w.cell? ⟨gs, 2, none⟩ = some (.pointer (some ⟨gc, 0, none⟩)) := cell_of_row w gs 2 _ 57 (0, 0) (hS.h _ List.mem_cons_self)
  have p3 : w.cell? ⟨gs, 3, none⟩ = some (.pointer (some ⟨gd, 0, none⟩)) := cell_of_row w gs 3 _ 57 (0, 0) (hS.h _ List.mem_cons_self)
  clear hS hw
  go_enter Try.func36, Try.ntmps36
  go_upto_region 9 with (go_at_call 63; refine HC.out.mono ?_; rintro e w1 ⟨rfl, hd, hf⟩; have HS1 := Aside0.mk (HS.out.upd 2 _ (res32 w0.heap.size gb (wide % 4294967296) [] (.slice none 0 0)) rfl (d_res32 (hd.lower HS.out.B.size)) (hf.mono (fun i _ hi e => hi (.inl e))) (fun i hi => .inl (.inl (foot_new32 hi)))); clear hd hf)
  clear HC HS p0 p1 p2 p3
  have p0 : w1.cell? ⟨gs, 0, none⟩ = some (.pointer (some ⟨ga, 0, none⟩)) := cell_of_row w1 gs 0 _ 57 (0, 0) (HS1.out.h _ List.mem_cons_self)
  have p1 : w1.cell? ⟨gs, 1, none⟩ = some (.pointer (some ⟨gb, 0, none⟩)) := cell_of_row w1 gs 1 _ 57 (0, 0) (HS1.out.h _ List.mem_cons_self)
  have p2 : w1.cell? ⟨gs, 2, none⟩ = some (.pointer (some ⟨gc, 0, none⟩)) := cell_of_row w1 gs 2 _ 57 (0, 0) (HS1.out.h _ List.mem_cons_self)
  have p3 : w1.cell? ⟨gs, 3, none⟩ = some (.pointer (some ⟨gd, 0, none⟩)) := cell_of_row w1 gs 3 _ 57 (0, 0) (HS1.out.h _ List.mem_cons_self)
  go_quiet (fail)
  go_wp2
  ((try simp only [Exit.inBlock, Exit.then]); refine bodyPost_ret (results_tmp4 rfl _ _ _) rfl ?_)
  exact ⟨rfl, HS1.out.drewN nq⟩
set_option maxHeartbeats 8000000 in
set_option maxRecDepth 100000 in
theorem reset2 (w0 w : World) (gs : Nat) (seed wide : Int) (ga gb gc gd : Nat) (ra rb rc rd t0 t1 t2 t3 : Value) (la lb lc ld : List Int) (hS : Sep w0 w (listS w0.heap.size gs seed wide ⟨ga, gb, gc, gd, ra, rb, rc, rd, t0, t1, t2, t3⟩ la lb lc ld)) (hw : W64 seed) :
    Calls Try.prog 36 #[.pointer (some ⟨gs, 0, none⟩), .int .i64 2] w fun e w' => e = .returned (.tuple #[.pointer (some ⟨ga, 0, none⟩), .pointer (some ⟨gb, 0, none⟩), .pointer (some ⟨gc, 0, none⟩), .pointer (some ⟨gd, 0, none⟩)]) ∧
      Sep w0 w' ((listS w0.heap.size gs seed wide ⟨ga, gb, gc, gd, ra, rb, rc, rd, t0, t1, t2, t3⟩ la lb lc ld).set 3 (res64 w0.heap.size gc seed [] (.slice none 0 0))) := by
  have HC := Aside0.mk (Reset64_calls lc gc w0.heap.size rc seed w hw (res64_d (hS.h _ (List.mem_cons_of_mem _ (List.mem_cons_of_mem _ (List.mem_cons_of_mem _ (List.mem_cons_self)))))))
  have HS := Aside0.mk hS
  have p0 : w.cell? ⟨gs, 0, none⟩ = some (.pointer (some ⟨ga, 0, none⟩)) := cell_of_row w gs 0 _ 57 (0, 0) (hS.h _ List.mem_cons_self)
  have p1 : w.cell? ⟨gs, 1, none⟩ = some (.pointer (some ⟨gb, 0, none⟩)) := cell_of_row w gs 1 _ 57 (0, 0) (hS.h _ List.mem_cons_self)
  have p2 : w.cell? ⟨gs, 2, none⟩ = some (.pointer (some ⟨gc, 0, none⟩)) := cell_of_row w gs 2 _ 57 (0, 0) (hS.h _ List.mem_cons_self)
  have p3 : w.cell? ⟨gs, 3, none⟩ = some (.pointer (some ⟨gd, 0, none⟩)) := cell_of_row w gs 3 _ 57 (0, 0) (hS.h _ List.mem_cons_self)
  clear hS hw
  go_enter Try.func36, Try.ntmps36
  go_upto_region 9 with (go_at_call 64; refine HC.out.mono ?_; rintro e w1 ⟨rfl, hd, hf⟩; have HS1 := Aside0.mk (HS.out.upd 3 _ (res64 w0.heap.size gc seed [] (.slice none 0 0)) rfl (d_res64 (hd.lower HS.out.B.size)) (hf.mono (fun i _ hi e => hi (.inl e))) (fun i hi => .inl (.inl (foot_new64 hi)))); clear hd hf)
  clear HC HS p0 p1 p2 p3
  have p0 : w1.cell? ⟨gs, 0, none⟩ = some (.pointer (some ⟨ga, 0, none⟩)) := cell_of_row w1 gs 0 _ 57 (0, 0) (HS1.out.h _ List.mem_cons_self)
  have p1 : w1.cell? ⟨gs, 1, none⟩ = some (.pointer (some ⟨gb, 0, none⟩)) := cell_of_row w1 gs 1 _ 57 (0, 0) (HS1.out.h _ List.mem_cons_self)
  have p2 : w1.cell? ⟨gs, 2, none⟩ = some (.pointer (some ⟨gc, 0, none⟩)) := cell_of_row w1 gs 2 _ 57 (0, 0) (HS1.out.h _ List.mem_cons_self)
  have p3 : w1.cell? ⟨gs, 3, none⟩ = some (.pointer (some ⟨gd, 0, none⟩)) := cell_of_row w1 gs 3 _ 57 (0, 0) (HS1.out.h _ List.mem_cons_self)
  go_quiet (fail)
  go_wp2
  ((try simp only [Exit.inBlock, Exit.then]); refine bodyPost_ret (results_tmp4 rfl _ _ _) rfl ?_)
  exact ⟨rfl, HS1.out.drewN nq⟩
set_option maxHeartbeats 8000000 in
set_option maxRecDepth 100000 in
theorem reset3 (w0 w : World) (gs : Nat) (seed wide : Int) (ga gb gc gd : Nat) (ra rb rc rd t0 t1 t2 t3 : Value) (la lb lc ld : List Int) (hS : Sep w0 w (listS w0.heap.size gs seed wide ⟨ga, gb, gc, gd, ra, rb, rc, rd, t0, t1, t2, t3⟩ la lb lc ld)) (hw : W64 wide) :
    Calls Try.prog 36 #[.pointer (some ⟨gs, 0, none⟩), .int .i64 3] w fun e w' => e = .returned (.tuple #[.pointer (some ⟨ga, 0, none⟩), .pointer (some ⟨gb, 0, none⟩), .pointer (some ⟨gc, 0, none⟩), .pointer (some ⟨gd, 0, none⟩)]) ∧
      Sep w0 w' ((listS w0.heap.size gs seed wide ⟨ga, gb, gc, gd, ra, rb, rc, rd, t0, t1, t2, t3⟩ la lb lc ld).set 4 (res64 w0.heap.size gd wide [] (.slice none 0 0))) := by
  have HC := Aside0.mk (Reset64_calls ld gd w0.heap.size rd wide w hw (res64_d (hS.h _ (List.mem_cons_of_mem _ (List.mem_cons_of_mem _ (List.mem_cons_of_mem _ (List.mem_cons_of_mem _ (List.mem_cons_self))))))))
  have HS := Aside0.mk hS
  have p0 : w.cell? ⟨gs, 0, none⟩ = some (.pointer (some ⟨ga, 0, none⟩)) := cell_of_row w gs 0 _ 57 (0, 0) (hS.h _ List.mem_cons_self)
  have p1 : w.cell? ⟨gs, 1, none⟩ = some (.pointer (some ⟨gb, 0, none⟩)) := cell_of_row w gs 1 _ 57 (0, 0) (hS.h _ List.mem_cons_self)
  have p2 : w.cell? ⟨gs, 2, none⟩ = some (.pointer (some ⟨gc, 0, none⟩)) := cell_of_row w gs 2 _ 57 (0, 0) (hS.h _ List.mem_cons_self)
  have p3 : w.cell? ⟨gs, 3, none⟩ = some (.pointer (some ⟨gd, 0, none⟩)) := cell_of_row w gs 3 _ 57 (0, 0) (hS.h _ List.mem_cons_self)
  clear hS hw
  go_enter Try.func36, Try.ntmps36
  go_upto_region 9 with (go_at_call 64; refine HC.out.mono ?_; rintro e w1 ⟨rfl, hd, hf⟩; have HS1 := Aside0.mk (HS.out.upd 4 _ (res64 w0.heap.size gd wide [] (.slice none 0 0)) rfl (d_res64 (hd.lower HS.out.B.size)) (hf.mono (fun i _ hi e => hi (.inl e))) (fun i hi => .inl (.inl (foot_new64 hi)))); clear hd hf)
  clear HC HS p0 p1 p2 p3
  have p0 : w1.cell? ⟨gs, 0, none⟩ = some (.pointer (some ⟨ga, 0, none⟩)) := cell_of_row w1 gs 0 _ 57 (0, 0) (HS1.out.h _ List.mem_cons_self)
  have p1 : w1.cell? ⟨gs, 1, none⟩ = some (.pointer (some ⟨gb, 0, none⟩)) := cell_of_row w1 gs 1 _ 57 (0, 0) (HS1.out.h _ List.mem_cons_self)
  have p2 : w1.cell? ⟨gs, 2, none⟩ = some (.pointer (some ⟨gc, 0, none⟩)) := cell_of_row w1 gs 2 _ 57 (0, 0) (HS1.out.h _ List.mem_cons_self)
  have p3 : w1.cell? ⟨gs, 3, none⟩ = some (.pointer (some ⟨gd, 0, none⟩)) := cell_of_row w1 gs 3 _ 57 (0, 0) (HS1.out.h _ List.mem_cons_self)
  go_quiet (fail)
  go_wp2
  ((try simp only [Exit.inBlock, Exit.then]); refine bodyPost_ret (results_tmp4 rfl _ _ _) rfl ?_)
  exact ⟨rfl, HS1.out.drewN nq⟩
end Go.Proofs.Ytnkcbkfccbfjpaa.XxhW
