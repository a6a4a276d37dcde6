/- MarginCalls: the law's printed function answers true at all numbers. No condition. -/
import Derived.Test.YtbchabgigjjdnaaPMarginB
import Derived.Test.YtbchabgigjjdnaaX11
namespace Go.Proofs.Ytbchabgigjjdnaa.Pure
open Go.RowKit Go.Proofs.Ytbchabgigjjdnaa.X Go.Proofs.YtbchabgigjjdnaaW.PrintWords Go.Proofs.YtbchabgigjjdnaaW.PrintLast Go.Proofs.Ytbchabgigjjdnaa.PMargin

theorem MarginCalls : lombardlaw28_MarginCalls.Pure := by
  intro l s a h r d wl ws wa wh wr wd
  obtain ⟨a0, a1⟩ := wf64 wa
  obtain ⟨x, he, hr⟩ := interest_ev (r := r) (d := d) a0 a1
  obtain ⟨K, hk⟩ := he
  refine ⟨K + 2, ?_⟩
  unfold lombardlaw28_MarginCalls.f
  obtain ⟨y, h1, h2⟩ : ∃ y : Int × Int, margin_Rules_Call.f (K + 2) l s a h = some y ∧ lombardref28_Call.f (K + 2) l s a h = some y := by
    by_cases F : PMargin.Fair l s a h
    · exact ⟨_, call_fair K F, ref_fair (K + 1) F⟩
    · exact ⟨_, call_bad K F, ref_bad (K + 1) F⟩
  have hk2 : margin_Interest.f (K + 2) a r d = some x := hk (K + 2) (by omega)
  rw [h1, h2, hk2, hr, awake_true]
  simp
end Go.Proofs.Ytbchabgigjjdnaa.Pure
