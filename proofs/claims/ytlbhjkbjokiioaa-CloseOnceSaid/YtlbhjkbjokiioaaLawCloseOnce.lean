-- made by wip/xprint of this repo (the kit's print, turned): no print of print.sh's
import Derived.Test.YtlbhjkbjokiioaaXMin
import Derived.Test.YtlbhjkbjokiioaaRows
import Derived.Test.YtlbhjkbjokiioaaOpenCloseOnce
import Derived.Test.YtlbhjkbjokiioaaPureCloseOnce
import Derived.WalkKit
import Derived.ProofKit
import Derived.OpenShut
import Derived.ShutString
import Derived.ChangeOld
import Derived.Below
import Derived.SizedLaws
import Derived.Carry
import Derived.Test.YtlbhjkbjokiioaaWSized
namespace Go.Proofs.Ytlbhjkbjokiioaa.closeOnce
open Go.ChangeShapes Go.WideShapes Go.ChangeAt Go.RowKit Go.Proofs.Ytlbhjkbjokiioaa.X Go.Proofs.Ytlbhjkbjokiioaa.XWords Go.Proofs.YtlbhjkbjokiioaaW.PrintWords
open Go.ChangeMaps (open_string shut_string)
set_option linter.unusedVariables false
theorem own : ownKnob Try.prog.godebug = none := by kernel_rfl
theorem laidOut : laidOutB Try.prog = true := by kernel_rfl
theorem agg_of {cs : Array Value} {l : List Value} (h : cs.toList = l) : cs = l.toArray := by rw [← h]
set_option maxRecDepth 100000 in
theorem lifted (os : Os) (started : os.Started) (H : Type) (enc : TypeId × Value → H) :
 ReturnsInHanded {} Try.checked os 7 .any (Rows.closeOnceSpec.pre6 enc Try.prog Try.f7 Rows.closeOnceRow.domain false) (Rows.closeOnceSpec.post enc Try.prog Try.f7 false true false false) := by
 refine returnsInHanded_of_change_sized (C := Try.checked) own started (by kernel_rfl) Try.func7
  (ChangeSpec.witness6 (enc := enc) (C := Try.checked) false ⟨#[], #[.slice none 0 0, .slice none 0 0], []⟩ 8 (by kernel_rfl) (by kernel_rfl) (by kernel_rfl) (by kernel_rfl)) ?_
 intro W base args ds gs before hval0 hW hcnd hsz0 _
 have hsz : (DataW.weightsEach Try.prog (Try.f7.params.toList ++ Rows.closeOnceSpec.plain.varTypes Try.prog) (ds ++ gs)).all (· ≤ reachBytes) = true := hsz0
 have hval : ∀ (j : Nat) t v, Try.f7.params[j]? = some t → args[j]? = some v → Value.okWide Try.prog W .any base t v := hval0
 have hW' := hW
 obtain ⟨p, q, hA0, hV, rfl, hfz, hnd⟩ := hW
 have hA : DataW.TrodAll enc Try.prog W 0 (fun _ => true) true Try.f7.params.toList args.toList ds p := hA0
 rw [Try.params7] at hA hval hsz
 obtain ⟨v0, vs0, d0, ds0, p0, q0, hargs, rfl, rfl, h0, r0⟩ := trodAll_cons hA
 obtain ⟨v1, vs1, d1, ds1, p1, q1, rfl, rfl, rfl, h1, r1⟩ := trodAll_cons r0
 obtain ⟨rfl, rfl, rfl⟩ := trodAll_nil r1
 obtain rfl : args = #[v0, v1] := by cases args; simp_all
 obtain ⟨rfl, rfl⟩ := trodVars_none hV
 have k0 := h0
 have lt0 : ∀ x ∈ p0, x.block < W.heap.size := by obtain ⟨m, hm⟩ := k0; exact DataW.trod_lt m _ _ _ hm
 have z0 : ∀ z ∈ DataW.weights Try.prog 40 d0, z ≤ reachBytes := fun z hz => of_decide_eq_true (List.all_eq_true.1 hsz z (DataW.weights_mem_each (j := 0) (t := 40) rfl rfl z hz))
 obtain ⟨va0, vn0, vc0, rfl⟩ := okWide_slice Try.underlying40 (hval 0 40 v0 rfl rfl)
 obtain ⟨fuel0, hf0⟩ := h0
 obtain ⟨x0, K0, B0⟩ := (opens_slice Try.underlying40 CloseOnce.opens63 (by kernel_rfl) (by kernel_rfl : Try.prog.bytesOf 63 = 24)) enc W 0 _ true fuel0 _ d0 p0 hf0 z0
 obtain ⟨A0, c0, e0, hc0, hr0⟩ := K0
 simp only [Value.cells, List.cons.injEq, Value.slice.injEq, and_true] at e0
 obtain ⟨rfl, rfl, rfl⟩ := e0
 have k1 := h1
 have lt1 : ∀ x ∈ p1, x.block < W.heap.size := by obtain ⟨m, hm⟩ := k1; exact DataW.trod_lt m _ _ _ hm
 have z1 : ∀ z ∈ DataW.weights Try.prog 46 d1, z ≤ reachBytes := fun z hz => of_decide_eq_true (List.all_eq_true.1 hsz z (DataW.weights_mem_each (j := 1) (t := 46) rfl rfl z hz))
 obtain ⟨va1, vn1, vc1, rfl⟩ := okWide_slice Try.underlying46 (hval 1 46 v1 rfl rfl)
 obtain ⟨fuel1, hf1⟩ := h1
 obtain ⟨x1, K1, B1⟩ := (opens_slice Try.underlying46 CloseOnce.opens66 (by kernel_rfl) (by kernel_rfl : Try.prog.bytesOf 66 = 40)) enc W 0 _ true fuel1 _ d1 p1 hf1 z1
 obtain ⟨A1, c1, e1, hc1, hr1⟩ := K1
 simp only [Value.cells, List.cons.injEq, Value.slice.injEq, and_true] at e1
 obtain ⟨rfl, rfl, rfl⟩ := e1
 clear hA0 hval0 hsz0 hsz
 refine (CloseOnce.walk Pure.CloseOnce _ _ x0 _ _ x1 W hr0 hc0 hr1 hc1 B0 B1).mono fun e W' ⟨he, bel⟩ => ?_
 subst he
 exact ⟨_, rfl, _, _, _, [], _, [], hW', trodAll_mk1 (shut_bool Try.underlying4 _), (trodAll_cons_mk (Below.trod laidOut (by kernel_rfl) (of_decide_eq_true (by kernel_rfl)) k0 bel lt0) (trodAll_cons_mk (Below.trod laidOut (by kernel_rfl) (of_decide_eq_true (by kernel_rfl)) k1 bel lt1) trodAll_mk0)), rfl, bel.frame _, fun h => by cases h⟩
theorem over : Rows.closeOnceRow.holds Try.pinned (OpenSpec.ofChange Rows.closeOnceSpec) :=
 OpenClaim.holds_of_wide 7 Try.f7 rfl rfl rfl rfl rfl rfl rfl ⟨rfl, rfl, rfl, rfl, rfl⟩ rfl rfl rfl rfl rfl (by kernel_rfl) Try.func7 (by kernel_rfl)
  (of_decide_eq_true (by kernel_rfl)) (by unfold Func.isWrapper; first | (rw [if_pos (by decide +kernel)]; kernel_rfl) | (rw [if_neg (by decide +kernel)]; exact ⟨rfl, rfl⟩))
  (fun os started H enc _ => lifted os started H enc)
theorem proved : Rows.CloseOnceSaid := over
#print axioms proved
end Go.Proofs.Ytlbhjkbjokiioaa.closeOnce
namespace Go.Proofs.Ytlbhjkbjokiioaa
/-- The row, under a short name, for the claim. -/
theorem closeOnce_holds : Rows.CloseOnceSaid := closeOnce.proved
end Go.Proofs.Ytlbhjkbjokiioaa
