import Derived.Test.YtjlkmdmaimednaaGreatRA
set_option linter.unusedVariables false
set_option linter.unusedSimpArgs false
open Go Go.Ab Go.Proofs
namespace Go.Proofs.YtjlkmdmaimednaaGreat.R
set_option linter.unusedVariables false
def zcs_R (v:(List zag)):A:=(.ref 1600)
def zcs_O (v:(List zag)):List (Nat×O):=[(1600,(.row 5 ((v:List zag).map zag.enc)))]
def zcs_e (Q:(List zag)→Prop)(v:(List zag)):Prop:=Rt (zcs_R) (zcs_O) v (Q v)
def zcs_r (a0:(List zag))(a1:Int)(a2:(List zag))(v:(List zag)):Prop:=Con Tryz.prog 53 [(.ref 620),(.t (i64 a1)),(.ref 622)] [(620,(.row 5 ((a0:List zag).map zag.enc))),(622,(.row 5 ((a2:List zag).map zag.enc)))] (fun r_ o_=>r_=zcs_R v∧o_=zcs_O v)
def zcs_w (a0:(List zag))(a1:Int)(a2:(List zag))(Q_:(List zag)→Prop):Prop:=CutX zag.enc a0 a1 (Br ((lenM zag.enc a2)==0) (zcs_e Q_ a0) (Br (a1==(lenM zag.enc a0)) (App2 56 zag.enc a0 a2 (zcs_e Q_ (a0++a2))) (Num .i64 ((lenM zag.enc a0)+(lenM zag.enc a2)) (False))))
def zcs_h (a0:(List zag))(a1:Int)(a2:(List zag)):HT (List zag) := .op 1 2 (.cut (a1:Int).toNat ((a0:List zag).map zag.enc).length) (.both 16 (.fin [.ren 620 1600] [] a0) (.both 22 (.op 7 2 (.no) (.rw 25 (((a0++a2):List zag).map zag.enc) (.fin [.ren 25 1600] [] (a0++a2)))) (.op 8 2 (.nw) (.nil))))
theorem zcs_of {a0 a1 a2 v} (h:zcs_w a0 a1 a2 (fun v_=>v_=v)):zcs_r a0 a1 a2 v:=Con_of1 Tryz.call53 Tryz.func53 [1600] (zcs_h a0 a1 a2) h
def zep_R (v:(List Int)):A:=(.ref 1600)
def zep_O (v:(List Int)):List (Nat×O):=[(1600,(.row 1 ((v:List Int).map eN)))]
def zep_e (Q:(List Int)→Prop)(v:(List Int)):Prop:=Rt (zep_R) (zep_O) v (Q v)
def zep_r (a0:(List Int))(a1:Int)(a2:(List Int))(v:(List Int)):Prop:=Con Tryz.prog 54 [(.ref 620),(.t (i64 a1)),(.ref 622)] [(620,(.row 1 ((a0:List Int).map eN))),(622,(.row 1 ((a2:List Int).map eN)))] (fun r_ o_=>r_=zep_R v∧o_=zep_O v)
def zep_w (a0:(List Int))(a1:Int)(a2:(List Int))(Q_:(List Int)→Prop):Prop:=CutX eN a0 a1 (Br ((lenM eN a2)==0) (zep_e Q_ a0) (Br (a1==(lenM eN a0)) (App2 8 eN a0 a2 (zep_e Q_ (a0++a2))) (Num .i64 ((lenM eN a0)+(lenM eN a2)) (False))))
def zep_h (a0:(List Int))(a1:Int)(a2:(List Int)):HT (List Int) := .op 1 2 (.cut (a1:Int).toNat ((a0:List Int).map eN).length) (.both 16 (.fin [.ren 620 1600] [] a0) (.both 22 (.op 7 2 (.no) (.rw 25 (((a0++a2):List Int).map eN) (.fin [.ren 25 1600] [] (a0++a2)))) (.op 8 2 (.nw) (.nil))))
theorem zep_of {a0 a1 a2 v} (h:zep_w a0 a1 a2 (fun v_=>v_=v)):zep_r a0 a1 a2 v:=Con_of1 Tryz.call54 Tryz.func54 [1600] (zep_h a0 a1 a2) h
def zdd_R (v:(List zab)):A:=(.ref 1600)
def zdd_O (v:(List zab)):List (Nat×O):=[(1600,(.row 2 ((v:List zab).map zab.enc)))]
def zdd_e (Q:(List zab)→Prop)(v:(List zab)):Prop:=Rt (zdd_R) (zdd_O) v (Q v)
def zdd_r (a0:(List zab))(a1:Int)(a2:(List zab))(v:(List zab)):Prop:=Con Tryz.prog 141 [(.ref 620),(.t (i64 a1)),(.ref 622)] [(620,(.row 2 ((a0:List zab).map zab.enc))),(622,(.row 2 ((a2:List zab).map zab.enc)))] (fun r_ o_=>r_=zdd_R v∧o_=zdd_O v)
def zdd_w (a0:(List zab))(a1:Int)(a2:(List zab))(Q_:(List zab)→Prop):Prop:=CutX zab.enc a0 a1 (Br ((lenM zab.enc a2)==0) (zdd_e Q_ a0) (Br (a1==(lenM zab.enc a0)) (App2 24 zab.enc a0 a2 (zdd_e Q_ (a0++a2))) (Num .i64 ((lenM zab.enc a0)+(lenM zab.enc a2)) (False))))
def zdd_h (a0:(List zab))(a1:Int)(a2:(List zab)):HT (List zab) := .op 1 2 (.cut (a1:Int).toNat ((a0:List zab).map zab.enc).length) (.both 16 (.fin [.ren 620 1600] [] a0) (.both 22 (.op 7 2 (.no) (.rw 25 (((a0++a2):List zab).map zab.enc) (.fin [.ren 25 1600] [] (a0++a2)))) (.op 8 2 (.nw) (.nil))))
theorem zdd_of {a0 a1 a2 v} (h:zdd_w a0 a1 a2 (fun v_=>v_=v)):zdd_r a0 a1 a2 v:=Con_of1 Tryz.call141 Tryz.func141 [1600] (zdd_h a0 a1 a2) h
end Go.Proofs.YtjlkmdmaimednaaGreat.R
