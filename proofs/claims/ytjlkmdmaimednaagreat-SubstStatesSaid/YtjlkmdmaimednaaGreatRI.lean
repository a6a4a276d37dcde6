import Derived.Test.YtjlkmdmaimednaaGreatRA
set_option linter.unusedVariables false
set_option linter.unusedSimpArgs false
open Go Go.Ab Go.Proofs
namespace Go.Proofs.YtjlkmdmaimednaaGreat.R
set_option linter.unusedVariables false
def slices_Insert_api_Asset_api_Asset_R (v : (List api_Asset)) : A := (.ref 1600)
def slices_Insert_api_Asset_api_Asset_O (v : (List api_Asset)) : List (Nat × O) := [(1600, (.row 5 ((v : List api_Asset).map api_Asset.enc)))]
def slices_Insert_api_Asset_api_Asset_e (Q : (List api_Asset) → Prop) (v : (List api_Asset)) : Prop := Rt (slices_Insert_api_Asset_api_Asset_R) (slices_Insert_api_Asset_api_Asset_O) v (Q v)
/-- slices.Insert[[]lombard/api.Asset,lombard/api.Asset] comes to this. -/
def slices_Insert_api_Asset_api_Asset_r (a0 : (List api_Asset)) (a1 : Int) (a2 : (List api_Asset)) (v : (List api_Asset)) : Prop := Con Tryz.prog 53 [(.ref 620), (.t (i64 a1)), (.ref 622)] [(620, (.row 5 ((a0 : List api_Asset).map api_Asset.enc))), (622, (.row 5 ((a2 : List api_Asset).map api_Asset.enc)))] (fun r_ o_ => r_ = slices_Insert_api_Asset_api_Asset_R v ∧ o_ = slices_Insert_api_Asset_api_Asset_O v)
def slices_Insert_api_Asset_api_Asset_w (a0 : (List api_Asset)) (a1 : Int) (a2 : (List api_Asset)) (Q_ : (List api_Asset) → Prop) : Prop := CutX api_Asset.enc a0 a1 (Br ((lenM api_Asset.enc a2) == 0) (slices_Insert_api_Asset_api_Asset_e Q_ a0) (Br (a1 == (lenM api_Asset.enc a0)) (App2 56 api_Asset.enc a0 a2 (slices_Insert_api_Asset_api_Asset_e Q_ (a0 ++ a2))) (Num .i64 ((lenM api_Asset.enc a0) + (lenM api_Asset.enc a2)) (False))))
def slices_Insert_api_Asset_api_Asset_h (a0 : (List api_Asset)) (a1 : Int) (a2 : (List api_Asset)) : HT (List api_Asset) := .op 1 2 (.cut (a1 : Int).toNat ((a0 : List api_Asset).map api_Asset.enc).length) (.both 16 (.fin [.ren 620 1600] [] a0) (.both 22 (.op 7 2 (.no) (.rw 25 (((a0 ++ a2) : List api_Asset).map api_Asset.enc) (.fin [.ren 25 1600] [] (a0 ++ a2)))) (.op 8 2 (.nw) (.nil))))
theorem slices_Insert_api_Asset_api_Asset_of {a0 : (List api_Asset)} {a1 : Int} {a2 : (List api_Asset)} {v : (List api_Asset)} (h : slices_Insert_api_Asset_api_Asset_w a0 a1 a2 (fun v_ => v_ = v)) : slices_Insert_api_Asset_api_Asset_r a0 a1 a2 v := Con_of1 Tryz.call53 Tryz.func53 [1600] (slices_Insert_api_Asset_api_Asset_h a0 a1 a2) h
def slices_Insert_int_int_R (v : (List Int)) : A := (.ref 1600)
def slices_Insert_int_int_O (v : (List Int)) : List (Nat × O) := [(1600, (.row 1 ((v : List Int).map eN)))]
def slices_Insert_int_int_e (Q : (List Int) → Prop) (v : (List Int)) : Prop := Rt (slices_Insert_int_int_R) (slices_Insert_int_int_O) v (Q v)
/-- slices.Insert[[]int,int] comes to this. -/
def slices_Insert_int_int_r (a0 : (List Int)) (a1 : Int) (a2 : (List Int)) (v : (List Int)) : Prop := Con Tryz.prog 54 [(.ref 620), (.t (i64 a1)), (.ref 622)] [(620, (.row 1 ((a0 : List Int).map eN))), (622, (.row 1 ((a2 : List Int).map eN)))] (fun r_ o_ => r_ = slices_Insert_int_int_R v ∧ o_ = slices_Insert_int_int_O v)
def slices_Insert_int_int_w (a0 : (List Int)) (a1 : Int) (a2 : (List Int)) (Q_ : (List Int) → Prop) : Prop := CutX eN a0 a1 (Br ((lenM eN a2) == 0) (slices_Insert_int_int_e Q_ a0) (Br (a1 == (lenM eN a0)) (App2 8 eN a0 a2 (slices_Insert_int_int_e Q_ (a0 ++ a2))) (Num .i64 ((lenM eN a0) + (lenM eN a2)) (False))))
def slices_Insert_int_int_h (a0 : (List Int)) (a1 : Int) (a2 : (List Int)) : HT (List Int) := .op 1 2 (.cut (a1 : Int).toNat ((a0 : List Int).map eN).length) (.both 16 (.fin [.ren 620 1600] [] a0) (.both 22 (.op 7 2 (.no) (.rw 25 (((a0 ++ a2) : List Int).map eN) (.fin [.ren 25 1600] [] (a0 ++ a2)))) (.op 8 2 (.nw) (.nil))))
theorem slices_Insert_int_int_of {a0 : (List Int)} {a1 : Int} {a2 : (List Int)} {v : (List Int)} (h : slices_Insert_int_int_w a0 a1 a2 (fun v_ => v_ = v)) : slices_Insert_int_int_r a0 a1 a2 v := Con_of1 Tryz.call54 Tryz.func54 [1600] (slices_Insert_int_int_h a0 a1 a2) h
def slices_Insert_api_Lot_api_Lot_R (v : (List api_Lot)) : A := (.ref 1600)
def slices_Insert_api_Lot_api_Lot_O (v : (List api_Lot)) : List (Nat × O) := [(1600, (.row 2 ((v : List api_Lot).map api_Lot.enc)))]
def slices_Insert_api_Lot_api_Lot_e (Q : (List api_Lot) → Prop) (v : (List api_Lot)) : Prop := Rt (slices_Insert_api_Lot_api_Lot_R) (slices_Insert_api_Lot_api_Lot_O) v (Q v)
/-- slices.Insert[[]lombard/api.Lot,lombard/api.Lot] comes to this. -/
def slices_Insert_api_Lot_api_Lot_r (a0 : (List api_Lot)) (a1 : Int) (a2 : (List api_Lot)) (v : (List api_Lot)) : Prop := Con Tryz.prog 141 [(.ref 620), (.t (i64 a1)), (.ref 622)] [(620, (.row 2 ((a0 : List api_Lot).map api_Lot.enc))), (622, (.row 2 ((a2 : List api_Lot).map api_Lot.enc)))] (fun r_ o_ => r_ = slices_Insert_api_Lot_api_Lot_R v ∧ o_ = slices_Insert_api_Lot_api_Lot_O v)
def slices_Insert_api_Lot_api_Lot_w (a0 : (List api_Lot)) (a1 : Int) (a2 : (List api_Lot)) (Q_ : (List api_Lot) → Prop) : Prop := CutX api_Lot.enc a0 a1 (Br ((lenM api_Lot.enc a2) == 0) (slices_Insert_api_Lot_api_Lot_e Q_ a0) (Br (a1 == (lenM api_Lot.enc a0)) (App2 24 api_Lot.enc a0 a2 (slices_Insert_api_Lot_api_Lot_e Q_ (a0 ++ a2))) (Num .i64 ((lenM api_Lot.enc a0) + (lenM api_Lot.enc a2)) (False))))
def slices_Insert_api_Lot_api_Lot_h (a0 : (List api_Lot)) (a1 : Int) (a2 : (List api_Lot)) : HT (List api_Lot) := .op 1 2 (.cut (a1 : Int).toNat ((a0 : List api_Lot).map api_Lot.enc).length) (.both 16 (.fin [.ren 620 1600] [] a0) (.both 22 (.op 7 2 (.no) (.rw 25 (((a0 ++ a2) : List api_Lot).map api_Lot.enc) (.fin [.ren 25 1600] [] (a0 ++ a2)))) (.op 8 2 (.nw) (.nil))))
theorem slices_Insert_api_Lot_api_Lot_of {a0 : (List api_Lot)} {a1 : Int} {a2 : (List api_Lot)} {v : (List api_Lot)} (h : slices_Insert_api_Lot_api_Lot_w a0 a1 a2 (fun v_ => v_ = v)) : slices_Insert_api_Lot_api_Lot_r a0 a1 a2 v := Con_of1 Tryz.call141 Tryz.func141 [1600] (slices_Insert_api_Lot_api_Lot_h a0 a1 a2) h
end Go.Proofs.YtjlkmdmaimednaaGreat.R
