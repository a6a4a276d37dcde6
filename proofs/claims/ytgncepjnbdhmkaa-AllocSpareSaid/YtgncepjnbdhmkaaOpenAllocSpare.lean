/- The data that comes in, and the pure statement: written by wip/abt/abrow4.py. -/
import Derived.Test.YtgncepjnbdhmkaaAbZ
import Derived.Test.YtgncepjnbdhmkaaTSpareB
set_option linter.unusedVariables false
set_option linter.unusedSimpArgs false
open Go Go.Ab Go.Proofs
namespace Go.Proofs.Ytgncepjnbdhmkaa.R
set_option linter.unusedVariables false
def api_Lot.ok (x : api_Lot) : Prop := (x.ISIN.size ≤ 140737488351232) ∧ (InK .i64 x.Qty)
theorem opens_api_Lot : Opens Try.prog api_Lot.enc 52 api_Lot.ok := opens_struct (fun (x : ByteArray × Int) => ⟨x.1, x.2⟩) (fun _ => rfl) (fun _ h => h) Try.underlying52 (ts := [9, 3]) (by kernel_rfl) (by kernel_rfl) (by kernel_rfl) (opensL_cons (opens_string Try.underlying9) (opensL_one (opens_int Try.underlying3)))
def api_Asset.ok (x : api_Asset) : Prop := (x.ISIN.size ≤ 140737488351232) ∧ (InK .i64 x.Issuer) ∧ (InK .i64 x.Rating) ∧ (InK .i64 x.Maturity) ∧ (x.Currency.size ≤ 140737488351232)
theorem opens_api_Asset : Opens Try.prog api_Asset.enc 54 api_Asset.ok := opens_struct (fun (x : ByteArray × Int × Int × Int × ByteArray) => ⟨x.1, x.2.1, x.2.2.1, x.2.2.2.1, x.2.2.2.2⟩) (fun _ => rfl) (fun _ h => h) Try.underlying54 (ts := [9, 3, 3, 3, 9]) (by kernel_rfl) (by kernel_rfl) (by kernel_rfl) (opensL_cons (opens_string Try.underlying9) (opensL_cons (opens_int Try.underlying3) (opensL_cons (opens_int Try.underlying3) (opensL_cons (opens_int Try.underlying3) (opensL_one (opens_string Try.underlying9))))))
def lombardref15_Item.ok (x : lombardref15_Item) : Prop := (api_Lot.ok x.Lot) ∧ (api_Asset.ok x.Asset) ∧ (InK .i64 x.Price) ∧ (InK .i64 x.Cut)
theorem opens_lombardref15_Item : Opens Try.prog lombardref15_Item.enc 56 lombardref15_Item.ok := opens_struct (fun (x : api_Lot × api_Asset × Int × Int) => ⟨x.1, x.2.1, x.2.2.1, x.2.2.2⟩) (fun _ => rfl) (fun _ h => h) Try.underlying56 (ts := [52, 54, 3, 3]) (by kernel_rfl) (by kernel_rfl) (by kernel_rfl) (opensL_cons opens_api_Lot (opensL_cons opens_api_Asset (opensL_cons (opens_int Try.underlying3) (opensL_one (opens_int Try.underlying3)))))
/-- THE PURE STATEMENT of AllocSpare. -/
def AllocSpare_pure : Prop := ∀ (a0 : (List lombardref15_Item)) (a1 : Int), (a0.length * 96 ≤ 140737488351232 ∧ ∀ x_ ∈ a0, lombardref15_Item.ok x_) → (InK .i64 a1) → lombardlaw18_AllocSpare_r a0 a1 true
end Go.Proofs.Ytgncepjnbdhmkaa.R
