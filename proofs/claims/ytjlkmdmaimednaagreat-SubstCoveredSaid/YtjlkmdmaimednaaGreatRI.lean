import Derived.Test.YtjlkmdmaimednaaGreatRA
set_option linter.unusedVariables false
set_option linter.unusedSimpArgs false
open Go Go.Ab Go.Proofs
namespace Go.Proofs.YtjlkmdmaimednaaGreat.R
def zcr_R (v:(List zaf)):A:=(.ref 1600)
def zcr_O (v:(List zaf)):List (Nat×O):=[(1600,(.row 5 ((v:List zaf).map zaf.enc)))]
def zcr_e (Q:(List zaf)→Prop)(v:(List zaf)):Prop:=Rt (zcr_R) (zcr_O) v (Q v)
def zcr_r (a0:(List zaf))(a1:Int)(a2:(List zaf))(v:(List zaf)):Prop:=Con Tryz.prog 53 [(.ref 620),(.t (i64 a1)),(.ref 622)] [(620,(.row 5 ((a0:List zaf).map zaf.enc))),(622,(.row 5 ((a2:List zaf).map zaf.enc)))] (fun r_ o_=>r_=zcr_R v∧o_=zcr_O v)
def zcr_w (a0:(List zaf))(a1:Int)(a2:(List zaf))(Q_:(List zaf)→Prop):Prop:=CutX zaf.enc a0 a1 (Br ((lenM zaf.enc a2)==0) (zcr_e Q_ a0) (Br (a1==(lenM zaf.enc a0)) (App2 56 zaf.enc a0 a2 (zcr_e Q_ (a0++a2))) (Num .i64 ((lenM zaf.enc a0)+(lenM zaf.enc a2)) (False))))
def zcr_h (a0:(List zaf))(a1:Int)(a2:(List zaf)):HT (List zaf) := .op 1 2 (.cut (a1:Int).toNat ((a0:List zaf).map zaf.enc).length) (.both 16 (.fin [.ren 620 1600] [] a0) (.both 22 (.op 7 2 (.no) (.rw 25 (((a0++a2):List zaf).map zaf.enc) (.fin [.ren 25 1600] [] (a0++a2)))) (.op 8 2 (.nw) (.nil))))
theorem zcr_of {a0 a1 a2 v}(h:zcr_w a0 a1 a2 (fun v_=>v_=v)):zcr_r a0 a1 a2 v:=Qaa Tryz.call53 Tryz.func53 [1600] (zcr_h a0 a1 a2) h
def zef_R (v:(List Int)):A:=(.ref 1600)
def zef_O (v:(List Int)):List (Nat×O):=[(1600,(.row 1 ((v:List Int).map eN)))]
def zef_e (Q:(List Int)→Prop)(v:(List Int)):Prop:=Rt (zef_R) (zef_O) v (Q v)
def zef_r (a0:(List Int))(a1:Int)(a2:(List Int))(v:(List Int)):Prop:=Con Tryz.prog 54 [(.ref 620),(.t (i64 a1)),(.ref 622)] [(620,(.row 1 ((a0:List Int).map eN))),(622,(.row 1 ((a2:List Int).map eN)))] (fun r_ o_=>r_=zef_R v∧o_=zef_O v)
def zef_w (a0:(List Int))(a1:Int)(a2:(List Int))(Q_:(List Int)→Prop):Prop:=CutX eN a0 a1 (Br ((lenM eN a2)==0) (zef_e Q_ a0) (Br (a1==(lenM eN a0)) (App2 8 eN a0 a2 (zef_e Q_ (a0++a2))) (Num .i64 ((lenM eN a0)+(lenM eN a2)) (False))))
def zef_h (a0:(List Int))(a1:Int)(a2:(List Int)):HT (List Int) := .op 1 2 (.cut (a1:Int).toNat ((a0:List Int).map eN).length) (.both 16 (.fin [.ren 620 1600] [] a0) (.both 22 (.op 7 2 (.no) (.rw 25 (((a0++a2):List Int).map eN) (.fin [.ren 25 1600] [] (a0++a2)))) (.op 8 2 (.nw) (.nil))))
theorem zef_of {a0 a1 a2 v}(h:zef_w a0 a1 a2 (fun v_=>v_=v)):zef_r a0 a1 a2 v:=Qaa Tryz.call54 Tryz.func54 [1600] (zef_h a0 a1 a2) h
def zcy_R (v:(List zab)):A:=(.ref 1600)
def zcy_O (v:(List zab)):List (Nat×O):=[(1600,(.row 2 ((v:List zab).map zab.enc)))]
def zcy_e (Q:(List zab)→Prop)(v:(List zab)):Prop:=Rt (zcy_R) (zcy_O) v (Q v)
def zcy_r (a0:(List zab))(a1:Int)(a2:(List zab))(v:(List zab)):Prop:=Con Tryz.prog 141 [(.ref 620),(.t (i64 a1)),(.ref 622)] [(620,(.row 2 ((a0:List zab).map zab.enc))),(622,(.row 2 ((a2:List zab).map zab.enc)))] (fun r_ o_=>r_=zcy_R v∧o_=zcy_O v)
def zcy_w (a0:(List zab))(a1:Int)(a2:(List zab))(Q_:(List zab)→Prop):Prop:=CutX zab.enc a0 a1 (Br ((lenM zab.enc a2)==0) (zcy_e Q_ a0) (Br (a1==(lenM zab.enc a0)) (App2 24 zab.enc a0 a2 (zcy_e Q_ (a0++a2))) (Num .i64 ((lenM zab.enc a0)+(lenM zab.enc a2)) (False))))
def zcy_h (a0:(List zab))(a1:Int)(a2:(List zab)):HT (List zab) := .op 1 2 (.cut (a1:Int).toNat ((a0:List zab).map zab.enc).length) (.both 16 (.fin [.ren 620 1600] [] a0) (.both 22 (.op 7 2 (.no) (.rw 25 (((a0++a2):List zab).map zab.enc) (.fin [.ren 25 1600] [] (a0++a2)))) (.op 8 2 (.nw) (.nil))))
theorem zcy_of {a0 a1 a2 v}(h:zcy_w a0 a1 a2 (fun v_=>v_=v)):zcy_r a0 a1 a2 v:=Qaa Tryz.call141 Tryz.func141 [1600] (zcy_h a0 a1 a2) h
end Go.Proofs.YtjlkmdmaimednaaGreat.R
