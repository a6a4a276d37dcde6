import Derived.Test.YtfommamkaaggjaaRA
set_option linter.unusedVariables false
set_option linter.unusedSimpArgs false
open Go Go.Ab Go.Proofs
namespace Go.Proofs.Ytfommamkaaggjaa.R
set_option linter.unusedVariables false
def slices_Insert_api_Lot_api_Lot_R (v : (List api_Lot)) : A := (.ref 1600)
def slices_Insert_api_Lot_api_Lot_O (v : (List api_Lot)) : List (Nat × O) := [(1600, (.row 2 ((v : List api_Lot).map api_Lot.enc)))]
def slices_Insert_api_Lot_api_Lot_e (Q : (List api_Lot) → Prop) (v : (List api_Lot)) : Prop := Rt (slices_Insert_api_Lot_api_Lot_R) (slices_Insert_api_Lot_api_Lot_O) v (Q v)
/-- slices.Insert[[]lombard/api.Lot,lombard/api.Lot] comes to this. -/
def slices_Insert_api_Lot_api_Lot_r (a0 : (List api_Lot)) (a1 : Int) (a2 : (List api_Lot)) (v : (List api_Lot)) : Prop := Con Try.prog 48 [(.ref 620), (.t (i64 a1)), (.ref 622)] [(620, (.row 2 ((a0 : List api_Lot).map api_Lot.enc))), (622, (.row 2 ((a2 : List api_Lot).map api_Lot.enc)))] (fun r_ o_ => r_ = slices_Insert_api_Lot_api_Lot_R v ∧ o_ = slices_Insert_api_Lot_api_Lot_O v)
def slices_Insert_api_Lot_api_Lot_w (a0 : (List api_Lot)) (a1 : Int) (a2 : (List api_Lot)) (Q_ : (List api_Lot) → Prop) : Prop := CutX api_Lot.enc a0 a1 (Br ((lenM api_Lot.enc a2) == 0) (slices_Insert_api_Lot_api_Lot_e Q_ a0) (Br (a1 == (lenM api_Lot.enc a0)) (App2 24 api_Lot.enc a0 a2 (slices_Insert_api_Lot_api_Lot_e Q_ (a0 ++ a2))) (Num .i64 ((lenM api_Lot.enc a0) + (lenM api_Lot.enc a2)) (False))))
def slices_Insert_api_Lot_api_Lot_h (a0 : (List api_Lot)) (a1 : Int) (a2 : (List api_Lot)) : HT (List api_Lot) := .op 1 2 (.cut (a1 : Int).toNat ((a0 : List api_Lot).map api_Lot.enc).length) (.both 16 (.fin [.ren 620 1600] [] a0) (.both 22 (.op 7 2 (.no) (.rw 25 (((a0 ++ a2) : List api_Lot).map api_Lot.enc) (.fin [.ren 25 1600] [] (a0 ++ a2)))) (.op 8 2 (.nw) (.nil))))
theorem slices_Insert_api_Lot_api_Lot_con {a0 : (List api_Lot)} {a1 : Int} {a2 : (List api_Lot)} {Q_ : (List api_Lot) → Prop} (h : slices_Insert_api_Lot_api_Lot_w a0 a1 a2 Q_) : Con Try.prog 48 [(.ref 620), (.t (i64 a1)), (.ref 622)] [(620, (.row 2 ((a0 : List api_Lot).map api_Lot.enc))), (622, (.row 2 ((a2 : List api_Lot).map api_Lot.enc)))] (Rets.R (.one (slices_Insert_api_Lot_api_Lot_R) (slices_Insert_api_Lot_api_Lot_O) Q_)) := Con_runT Try.call48 Try.func48 [1600] (slices_Insert_api_Lot_api_Lot_h a0 a1 a2) (.one (slices_Insert_api_Lot_api_Lot_R) (slices_Insert_api_Lot_api_Lot_O) Q_) (by kernel_rfl) h (by kernel_rfl)
theorem slices_Insert_api_Lot_api_Lot_of {a0 : (List api_Lot)} {a1 : Int} {a2 : (List api_Lot)} {v : (List api_Lot)} (h : slices_Insert_api_Lot_api_Lot_w a0 a1 a2 (fun v_ => v_ = v)) : slices_Insert_api_Lot_api_Lot_r a0 a1 a2 v := (slices_Insert_api_Lot_api_Lot_con h).mono fun _ _ ⟨v_, hv_⟩ => by obtain ⟨⟨h1, h2⟩, rfl⟩ := hv_; exact ⟨h1, h2⟩
end Go.Proofs.Ytfommamkaaggjaa.R
