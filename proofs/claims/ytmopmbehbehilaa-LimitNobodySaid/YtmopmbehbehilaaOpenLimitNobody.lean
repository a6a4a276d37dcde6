/- The data that comes in, and the pure statement: written by wip/abt/abrow4.py. -/
import Derived.Test.YtmopmbehbehilaaAbZ
import Derived.Test.YtmopmbehbehilaaPLimNobody
set_option linter.unusedVariables false
set_option linter.unusedSimpArgs false
open Go Go.Ab Go.Proofs
namespace Go.Proofs.Ytmopmbehbehilaa.R
set_option linter.unusedVariables false
def api_Asset.ok (x : api_Asset) : Prop := (x.ISIN.size ≤ 140737488351232) ∧ (InK .i64 x.Issuer) ∧ (InK .i64 x.Rating) ∧ (InK .i64 x.Maturity) ∧ (x.Currency.size ≤ 140737488351232)
theorem opens_api_Asset : Opens Try.prog api_Asset.enc 33 api_Asset.ok := opens_struct (fun (x : ByteArray × Int × Int × Int × ByteArray) => ⟨x.1, x.2.1, x.2.2.1, x.2.2.2.1, x.2.2.2.2⟩) (fun _ => rfl) (fun _ h => h) Try.underlying33 (ts := [9, 3, 3, 3, 9]) (by kernel_rfl) (by kernel_rfl) (by kernel_rfl) (opensL_cons (opens_string Try.underlying9) (opensL_cons (opens_int Try.underlying3) (opensL_cons (opens_int Try.underlying3) (opensL_cons (opens_int Try.underlying3) (opensL_one (opens_string Try.underlying9))))))
/-- THE PURE STATEMENT of LimitNobody. -/
def LimitNobody_pure : Prop := ∀ (a0 : api_Asset) (a1 : Int), (api_Asset.ok a0) → (InK .i64 a1) → lombardlaw16_LimitNobody_r a0 a1 true
end Go.Proofs.Ytmopmbehbehilaa.R
