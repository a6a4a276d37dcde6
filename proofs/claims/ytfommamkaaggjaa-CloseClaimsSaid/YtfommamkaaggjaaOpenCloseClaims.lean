/- The data that comes in, and the pure statement: written by wip/abt/abrow4.py. -/
import Derived.Test.YtfommamkaaggjaaAbZ
import Derived.Test.YtfommamkaaggjaaTClose
set_option linter.unusedVariables false
set_option linter.unusedSimpArgs false
open Go Go.Ab Go.Proofs
namespace Go.Proofs.Ytfommamkaaggjaa.R
set_option linter.unusedVariables false
def api_Reset.ok (x : api_Reset) : Prop := (InK .i64 x.Day) ∧ (InK .i64 x.Rate)
theorem opens_api_Reset : Opens Try.prog api_Reset.enc 76 api_Reset.ok := opens_struct (fun (x : Int × Int) => ⟨x.1, x.2⟩) (fun _ => rfl) (fun _ h => h) Try.underlying76 (ts := [3, 3]) (by kernel_rfl) (by kernel_rfl) (by kernel_rfl) (opensL_cons (opens_int Try.underlying3) (opensL_one (opens_int Try.underlying3)))
def api_Trade.ok (x : api_Trade) : Prop := (InK .i64 x.ID) ∧ (InK .i64 x.Twin) ∧ (InK .i64 x.Member) ∧ (InK .i64 x.Side) ∧ (InK .i64 x.Basket) ∧ (InK .i64 x.Amount) ∧ (InK .i64 x.Start) ∧ (InK .i64 x.End) ∧ (x.Resets.length * 16 ≤ 140737488351232 ∧ ∀ x_ ∈ x.Resets, api_Reset.ok x_) ∧ (InK .i64 x.Stage) ∧ (True)
theorem opens_api_Trade : Opens Try.prog api_Trade.enc 27 api_Trade.ok := opens_struct (fun (x : Int × Int × Int × Int × Int × Int × Int × Int × (List api_Reset) × Int × Bool) => ⟨x.1, x.2.1, x.2.2.1, x.2.2.2.1, x.2.2.2.2.1, x.2.2.2.2.2.1, x.2.2.2.2.2.2.1, x.2.2.2.2.2.2.2.1, x.2.2.2.2.2.2.2.2.1, x.2.2.2.2.2.2.2.2.2.1, x.2.2.2.2.2.2.2.2.2.2⟩) (fun _ => rfl) (fun _ h => h) Try.underlying27 (ts := [3, 3, 3, 3, 3, 3, 3, 3, 25, 3, 4]) (by kernel_rfl) (by kernel_rfl) (by kernel_rfl) (opensL_cons (opens_int Try.underlying3) (opensL_cons (opens_int Try.underlying3) (opensL_cons (opens_int Try.underlying3) (opensL_cons (opens_int Try.underlying3) (opensL_cons (opens_int Try.underlying3) (opensL_cons (opens_int Try.underlying3) (opensL_cons (opens_int Try.underlying3) (opensL_cons (opens_int Try.underlying3) (opensL_cons (opens_slice (bytes := 16) Try.underlying25 opens_api_Reset (by kernel_rfl : Try.prog.cellsOf 76 = 2) (by decide) (by kernel_rfl : Try.prog.bytesOf 76 = 16)) (opensL_cons (opens_int Try.underlying3) (opensL_one (opens_bool Try.underlying4))))))))))))
def api_Lot.ok (x : api_Lot) : Prop := (x.ISIN.size ≤ 140737488351232) ∧ (InK .i64 x.Qty)
theorem opens_api_Lot : Opens Try.prog api_Lot.enc 68 api_Lot.ok := opens_struct (fun (x : ByteArray × Int) => ⟨x.1, x.2⟩) (fun _ => rfl) (fun _ h => h) Try.underlying68 (ts := [9, 3]) (by kernel_rfl) (by kernel_rfl) (by kernel_rfl) (opensL_cons (opens_string Try.underlying9) (opensL_one (opens_int Try.underlying3)))
def lombardref25_Covered.ok (x : lombardref25_Covered) : Prop := (api_Trade.ok x.Trade) ∧ (x.Lots.length * 24 ≤ 140737488351232 ∧ ∀ x_ ∈ x.Lots, api_Lot.ok x_)
theorem opens_lombardref25_Covered : Opens Try.prog lombardref25_Covered.enc 30 lombardref25_Covered.ok := opens_struct (fun (x : api_Trade × (List api_Lot)) => ⟨x.1, x.2⟩) (fun _ => rfl) (fun _ h => h) Try.underlying30 (ts := [27, 28]) (by kernel_rfl) (by kernel_rfl) (by kernel_rfl) (opensL_cons opens_api_Trade (opensL_one (opens_slice (bytes := 24) Try.underlying28 opens_api_Lot (by kernel_rfl : Try.prog.cellsOf 68 = 2) (by decide) (by kernel_rfl : Try.prog.bytesOf 68 = 24))))
/-- THE PURE STATEMENT of CloseClaims. -/
def CloseClaims_pure : Prop := ∀ (a0 : (List lombardref25_Covered)) (a1 : Int) (a2 : Int), (a0.length * 128 ≤ 140737488351232 ∧ ∀ x_ ∈ a0, lombardref25_Covered.ok x_) → (InK .i64 a1) → (InK .i64 a2) → lombardlaw29_CloseClaims_r a0 a1 a2 true
end Go.Proofs.Ytfommamkaaggjaa.R
