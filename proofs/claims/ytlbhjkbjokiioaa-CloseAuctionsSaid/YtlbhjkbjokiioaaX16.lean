-- a shortened text: what this claim does not name is left out (wip/xprint/prune.py of this repo)
import Derived.Test.YtlbhjkbjokiioaaXMin
import Derived.Test.YtlbhjkbjokiioaaX0
import Derived.Test.YtlbhjkbjokiioaaMD
namespace Go.Proofs.Ytlbhjkbjokiioaa.X
open Go.RowKit Go.Proofs.YtlbhjkbjokiioaaW.PrintWords Go.Proofs.YtlbhjkbjokiioaaW.PrintLast Go.Proofs.YtlbhjkbjokiioaaW.PrintMore
attribute [local go_sem] max2_int min2_int max_two min_two max_three min_three max_four min_four
set_option linter.unusedVariables false
set_option linter.unusedSimpArgs false
def lombardref13_Worth.f (a0 : Int) (a1 : Int) : Option (Int × Int) := if a0 < 0 then (some (0, 1)) else (if a0 > 1125899906842624 then (some (0, 1)) else (if a1 < 1 then (some (0, 1)) else (if a1 > 4294967296 then (some (0, 1)) else ((q32q.f a0 a1 1000000 1).bind fun bt443 => (some (bt443.1, bt443.2))))))
set_option maxHeartbeats 8000000 in
set_option maxRecDepth 100000 in
theorem lombardref13_Worth.calls (a0 : Int) (a1 : Int) (r1 : Int) (r2 : Int) (w : World) (h : lombardref13_Worth.f a0 a1 = some (r1, r2)) :
 Calls Try.prog 39 #[.int .i64 a0, .int .i64 a1] w fun e w' => e = .returned (.tuple #[.int .i64 r1, .int .i64 r2]) ∧ Below w.heap.size w w' := by
 have HB := aK (Below.refl w.heap.size w)
 have H : (if a0 < 0 then (some (0, 1)) else (if a0 > 1125899906842624 then (some (0, 1)) else (if a1 < 1 then (some (0, 1)) else (if a1 > 4294967296 then (some (0, 1)) else ((q32q.f a0 a1 1000000 1).bind fun bt443 => (some (bt443.1, bt443.2))))))) = some (r1, r2) := h
 clear h
 by_cases c3 : a0 < 0
 · rw [if_pos c3] at H
   have c3b0 := dT c3
   clear c3
   simp only [Option.some.injEq, Prod.mk.injEq] at H
   obtain ⟨rfl, rfl⟩ := H
   go_enter Try.func39, Try.ntmps39
   go_wp2
   go_ret2
   exact ⟨by first | rfl | (simp [errW_none, errW_some] <;> rfl) | (simp [*, errW_none, errW_some] <;> rfl), gB HB⟩
 · rw [if_neg c3] at H
   have c3b0 := dF c3
   clear c3
   by_cases c4 : a0 > 1125899906842624
   · rw [if_pos c4] at H
     have c4b0 : decide (1125899906842624 < a0) = true := decide_eq_true c4
     clear c4
     simp only [Option.some.injEq, Prod.mk.injEq] at H
     obtain ⟨rfl, rfl⟩ := H
     go_enter Try.func39, Try.ntmps39
     go_wp2
     go_ret2
     exact ⟨by first | rfl | (simp [errW_none, errW_some] <;> rfl) | (simp [*, errW_none, errW_some] <;> rfl), gB HB⟩
   · rw [if_neg c4] at H
     have c4b0 : decide (1125899906842624 < a0) = false := decide_eq_false c4
     clear c4
     by_cases c5 : a1 < 1
     · rw [if_pos c5] at H
       have c5b0 := dT c5
       clear c5
       simp only [Option.some.injEq, Prod.mk.injEq] at H
       obtain ⟨rfl, rfl⟩ := H
       go_enter Try.func39, Try.ntmps39
       go_wp2
       go_ret2
       exact ⟨by first | rfl | (simp [errW_none, errW_some] <;> rfl) | (simp [*, errW_none, errW_some] <;> rfl), gB HB⟩
     · rw [if_neg c5] at H
       have c5b0 := dF c5
       clear c5
       by_cases c6 : a1 > 4294967296
       · rw [if_pos c6] at H
         have c6b0 : decide (4294967296 < a1) = true := decide_eq_true c6
         clear c6
         simp only [Option.some.injEq, Prod.mk.injEq] at H
         obtain ⟨rfl, rfl⟩ := H
         go_enter Try.func39, Try.ntmps39
         go_wp2
         go_ret2
         exact ⟨by first | rfl | (simp [errW_none, errW_some] <;> rfl) | (simp [*, errW_none, errW_some] <;> rfl), gB HB⟩
       · rw [if_neg c6] at H
         have c6b0 : decide (4294967296 < a1) = false := decide_eq_false c6
         clear c6
         replace H := Option.bind_eq_some_iff.mp H
         obtain ⟨⟨t443, t444⟩, A70, H⟩ := H
         replace H : (some (t443, t444)) = some (r1, r2) := H
         have A7 := Aside0.mk A70; clear A70
         simp only [Option.some.injEq, Prod.mk.injEq] at H
         obtain ⟨rfl, rfl⟩ := H
         go_enter Try.func39, Try.ntmps39
         go_wp2_with (first | ((with_reducible refine gate_callee (f := 21) rfl ?_); refine goesL_ (some 22) rfl rfl Try.func21 (by kernel_rfl) rfl #[.int .i64 a0, .int .i64 a1, .int .i64 1000000, .int .i64 1] rfl am ?_; (with_reducible refine (q32q.calls a0 a1 1000000 1 t443 t444 _ A7.out).mono ?_); rintro e w8 ⟨rfl, hb⟩; refine ⟨_, rfl, ?_⟩; replace HB := aK (below_step (gB HB) hb); (try clear hb); (try clear hb2); (try clear hk); (try clear hi)))
         go_ret2
         exact ⟨by first | rfl | (simp [errW_none, errW_some] <;> rfl) | (simp [*, errW_none, errW_some] <;> rfl), gB HB⟩
end Go.Proofs.Ytlbhjkbjokiioaa.X
