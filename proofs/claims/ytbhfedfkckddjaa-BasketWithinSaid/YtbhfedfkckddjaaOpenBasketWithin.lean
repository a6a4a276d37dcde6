/- The data that comes in, and the pure statement: written by wip/abt/abrow.py. -/
import Derived.Test.YtbhfedfkckddjaaAbZ
import Derived.Test.YtbhfedfkckddjaaPBasketT
set_option linter.unusedVariables false
set_option linter.unusedSimpArgs false
open Go Go.Ab Go.Proofs
namespace Go.Proofs.Ytbhfedfkckddjaa.R
set_option linter.unusedVariables false
def api_Cut.ok (x : api_Cut) : Prop := (InK .i64 x.Days) ∧ (InK .i64 x.Rating) ∧ (InK .i64 x.Cut)
theorem opens_api_Cut : Opens Try.prog api_Cut.enc 53 api_Cut.ok := opens_struct (fun (x : Int × Int × Int) => ⟨x.1, x.2.1, x.2.2⟩) (fun _ => rfl) (fun _ h => h) Try.underlying53 (ts := [3, 3, 3]) (by kernel_rfl) (by kernel_rfl) (by kernel_rfl) (opensL_cons (opens_int Try.underlying3) (opensL_cons (opens_int Try.underlying3) (opensL_one (opens_int Try.underlying3))))
def api_Basket.ok (x : api_Basket) : Prop := (InK .i64 x.ID) ∧ (InK .i64 x.Version) ∧ (x.Currency.size ≤ 140737488351232) ∧ (InK .i64 x.Rating) ∧ (InK .i64 x.Least) ∧ (InK .i64 x.Most) ∧ (x.Cuts.length * 24 ≤ 140737488351232 ∧ ∀ x_ ∈ x.Cuts, api_Cut.ok x_) ∧ (InK .i64 x.Issuer) ∧ (InK .i64 x.Asset) ∧ (x.Barred.length * 8 ≤ 140737488351232 ∧ ∀ x_ ∈ x.Barred, InK .i64 x_)
theorem opens_api_Basket : Opens Try.prog api_Basket.enc 29 api_Basket.ok := opens_struct (fun (x : Int × Int × ByteArray × Int × Int × Int × (List api_Cut) × Int × Int × (List Int)) => ⟨x.1, x.2.1, x.2.2.1, x.2.2.2.1, x.2.2.2.2.1, x.2.2.2.2.2.1, x.2.2.2.2.2.2.1, x.2.2.2.2.2.2.2.1, x.2.2.2.2.2.2.2.2.1, x.2.2.2.2.2.2.2.2.2⟩) (fun _ => rfl) (fun _ h => h) Try.underlying29 (ts := [3, 3, 9, 3, 3, 3, 26, 3, 3, 27]) (by kernel_rfl) (by kernel_rfl) (by kernel_rfl) (opensL_cons (opens_int Try.underlying3) (opensL_cons (opens_int Try.underlying3) (opensL_cons (opens_string Try.underlying9) (opensL_cons (opens_int Try.underlying3) (opensL_cons (opens_int Try.underlying3) (opensL_cons (opens_int Try.underlying3) (opensL_cons (opens_slice (bytes := 24) Try.underlying26 opens_api_Cut (by kernel_rfl : Try.prog.cellsOf 53 = 3) (by decide) (by kernel_rfl : Try.prog.bytesOf 53 = 24)) (opensL_cons (opens_int Try.underlying3) (opensL_cons (opens_int Try.underlying3) (opensL_one (opens_slice (bytes := 8) Try.underlying27 (opens_int Try.underlying3) (by kernel_rfl : Try.prog.cellsOf 3 = 1) (by decide) (by kernel_rfl : Try.prog.bytesOf 3 = 8))))))))))))
def api_Asset.ok (x : api_Asset) : Prop := (x.ISIN.size ≤ 140737488351232) ∧ (InK .i64 x.Issuer) ∧ (InK .i64 x.Rating) ∧ (InK .i64 x.Maturity) ∧ (x.Currency.size ≤ 140737488351232)
theorem opens_api_Asset : Opens Try.prog api_Asset.enc 38 api_Asset.ok := opens_struct (fun (x : ByteArray × Int × Int × Int × ByteArray) => ⟨x.1, x.2.1, x.2.2.1, x.2.2.2.1, x.2.2.2.2⟩) (fun _ => rfl) (fun _ h => h) Try.underlying38 (ts := [9, 3, 3, 3, 9]) (by kernel_rfl) (by kernel_rfl) (by kernel_rfl) (opensL_cons (opens_string Try.underlying9) (opensL_cons (opens_int Try.underlying3) (opensL_cons (opens_int Try.underlying3) (opensL_cons (opens_int Try.underlying3) (opensL_one (opens_string Try.underlying9))))))
/-- THE PURE STATEMENT of BasketWithin. -/
def BasketWithin_pure : Prop := ∀ (a0 : api_Basket) (a1 : api_Basket) (a2 : api_Asset) (a3 : Int), (api_Basket.ok a0) → (api_Basket.ok a1) → (api_Asset.ok a2) → (InK .i64 a3) → lombardlaw14_BasketWithin a0 a1 a2 a3 true
end Go.Proofs.Ytbhfedfkckddjaa.R
