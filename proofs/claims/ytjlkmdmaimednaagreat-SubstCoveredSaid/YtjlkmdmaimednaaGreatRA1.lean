import Derived.Test.YtjlkmdmaimednaaGreatAbX
import Derived.Test.YtjlkmdmaimednaaGreatRF
set_option linter.unusedVariables false
set_option linter.unusedSimpArgs false
open Go Go.Ab Go.Proofs
namespace Go.Proofs.YtjlkmdmaimednaaGreat.R
structure zab where
 ISIN:ByteArray
 Qty:Int
def zab.enc (x:zab):List T:=[(str x.ISIN),(i64 x.Qty)]
structure zaf where
 ISIN:ByteArray
 Issuer:Int
 Rating:Int
 Maturity:Int
 Currency:ByteArray
def zaf.enc (x:zaf):List T:=[(str x.ISIN),(i64 x.Issuer),(i64 x.Rating),(i64 x.Maturity),(str x.Currency)]
structure zaa where
 Lot:zab
 Asset:zaf
 Price:Int
 Cut:Int
def zaa.enc (x:zaa):List T:=[(str x.Lot.ISIN),(i64 x.Lot.Qty),(str x.Asset.ISIN),(i64 x.Asset.Issuer),(i64 x.Asset.Rating),(i64 x.Asset.Maturity),(str x.Asset.Currency),(i64 x.Price),(i64 x.Cut)]
structure zag where
 Lot:zab
 Asset:zaf
 Price:Int
 Cut:Int
def zag.enc (x:zag):List T:=[(str x.Lot.ISIN),(i64 x.Lot.Qty),(str x.Asset.ISIN),(i64 x.Asset.Issuer),(i64 x.Asset.Rating),(i64 x.Asset.Maturity),(str x.Asset.Currency),(i64 x.Price),(i64 x.Cut)]
structure zaw where
 l:(List zaf)
 prices:(List Int)
 made:Bool
def zaw.enc (x:zaw):List T:=[(.sl 5 ((x.l:List zaf).map zaf.enc)),(.sl 1 ((x.prices:List Int).map eN)),(boo x.made)]
structure zbs where
 Days:Int
 Rating:Int
 Cut:Int
def zbs.enc (x:zbs):List T:=[(i64 x.Days),(i64 x.Rating),(i64 x.Cut)]
structure zat where
 ID:Int
 Version:Int
 Currency:ByteArray
 Rating:Int
 Least:Int
 Most:Int
 Cuts:(List zbs)
 Issuer:Int
 Asset:Int
 Barred:(List Int)
def zat.enc (x:zat):List T:=[(i64 x.ID),(i64 x.Version),(str x.Currency),(i64 x.Rating),(i64 x.Least),(i64 x.Most),(.sl 3 ((x.Cuts:List zbs).map zbs.enc)),(i64 x.Issuer),(i64 x.Asset),(.sl 1 ((x.Barred:List Int).map eN))]
structure zad where
 A:zaf
 Price:Int
def zad.enc (x:zad):List T:=[(str x.A.ISIN),(i64 x.A.Issuer),(i64 x.A.Rating),(i64 x.A.Maturity),(str x.A.Currency),(i64 x.Price)]
def zfl_R (v:Bool):A:=(.t (boo v))
def zfl_O (v:Bool):List (Nat×O):=[]
def zfl_e (Q:Bool→Prop)(v:Bool):Prop:=Rt (zfl_R) (zfl_O) v (Q v)
def zfl_r (a0:Int)(v:Bool):Prop:=Con Tryz.prog 193 [(.t (i64 a0))] [] (fun r_ o_=>r_=zfl_R v∧o_=zfl_O v)
def zfl_w (a0:Int)(Q_:Bool→Prop):Prop:=zfl_e Q_ (a0 != a0)
def zfl_h (a0:Int):HT Bool := .fin [] [] (a0 != a0)
theorem zfl_of {a0 v}(h:zfl_w a0 (fun v_=>v_=v)):zfl_r a0 v:=Qaa Tryz.call193 Tryz.func193 [] (zfl_h a0) h
def zem_R (v:Int):A:=(.t (i64 v))
def zem_O (v:Int):List (Nat×O):=[]
def zem_e (Q:Int→Prop)(v:Int):Prop:=Rt (zem_R) (zem_O) v (Q v)
def zem_r (a0:Int)(a1:Int)(v:Int):Prop:=Con Tryz.prog 158 [(.t (i64 a0)),(.t (i64 a1))] [] (fun r_ o_=>r_=zem_R v∧o_=zem_O v)
def zem_w (a0:Int)(a1:Int)(Q_:Int→Prop):Prop:=∃r1:Bool,(zfl_r a0 r1)∧(∃r2:Bool,(zfl_r a1 r2)∧(Br r1 (Br r2 (zem_e Q_ 0) (zem_e Q_ (-1))) (Br r2 (zem_e Q_ 1) (Br (decide (a0<a1)) (zem_e Q_ (-1)) (Br (decide (a0>a1)) (zem_e Q_ 1) (zem_e Q_ 0))))))
def zem_h (a0:Int)(a1:Int):HT Int := .ex (Bool) fun r1 => .op 1 1 (.call [] (.t (boo r1)) []) (.ex (Bool) fun r2 => .op 2 1 (.call [] (.t (boo r2)) []) (.both 11 (.both 12 (.fin [] [] 0) (.fin [] [] (-1))) (.both 13 (.fin [] [] 1) (.both 16 (.fin [] [] (-1)) (.both 19 (.fin [] [] 1) (.fin [] [] 0))))))
theorem zem_of {a0 a1 v}(h:zem_w a0 a1 (fun v_=>v_=v)):zem_r a0 a1 v:=Qaa Tryz.call158 Tryz.func158 [] (zem_h a0 a1) h
def zfe_R (v:Bool):A:=(.t (boo v))
def zfe_O (v:Bool):List (Nat×O):=[]
def zfe_e (Q:Bool→Prop)(v:Bool):Prop:=Rt (zfe_R) (zfe_O) v (Q v)
def zfe_r (a0:ByteArray)(v:Bool):Prop:=Con Tryz.prog 149 [(.t (str a0))] [] (fun r_ o_=>r_=zfe_R v∧o_=zfe_O v)
def zfe_w (a0:ByteArray)(Q_:Bool→Prop):Prop:=zfe_e Q_ (!strEq a0 a0)
def zfe_h (a0:ByteArray):HT Bool := .fin [] [] (!strEq a0 a0)
theorem zfe_of {a0 v}(h:zfe_w a0 (fun v_=>v_=v)):zfe_r a0 v:=Qaa Tryz.call149 Tryz.func149 [] (zfe_h a0) h
def zdm_R (v:Int):A:=(.t (i64 v))
def zdm_O (v:Int):List (Nat×O):=[]
def zdm_e (Q:Int→Prop)(v:Int):Prop:=Rt (zdm_R) (zdm_O) v (Q v)
def zdm_r (a0:ByteArray)(a1:ByteArray)(v:Int):Prop:=Con Tryz.prog 95 [(.t (str a0)),(.t (str a1))] [] (fun r_ o_=>r_=zdm_R v∧o_=zdm_O v)
def zdm_w (a0:ByteArray)(a1:ByteArray)(Q_:Int→Prop):Prop:=∃r1:Bool,(zfe_r a0 r1)∧(∃r2:Bool,(zfe_r a1 r2)∧(Br r1 (Br r2 (zdm_e Q_ 0) (zdm_e Q_ (-1))) (Br r2 (zdm_e Q_ 1) (Br (strLt a0 a1) (zdm_e Q_ (-1)) (Br (!strLe a0 a1) (zdm_e Q_ 1) (zdm_e Q_ 0))))))
def zdm_h (a0:ByteArray)(a1:ByteArray):HT Int := .ex (Bool) fun r1 => .op 1 1 (.call [] (.t (boo r1)) []) (.ex (Bool) fun r2 => .op 2 1 (.call [] (.t (boo r2)) []) (.both 11 (.both 12 (.fin [] [] 0) (.fin [] [] (-1))) (.both 13 (.fin [] [] 1) (.both 16 (.fin [] [] (-1)) (.both 19 (.fin [] [] 1) (.fin [] [] 0))))))
theorem zdm_of {a0 a1 v}(h:zdm_w a0 a1 (fun v_=>v_=v)):zdm_r a0 a1 v:=Qaa Tryz.call95 Tryz.func95 [] (zdm_h a0 a1) h
def zdk_s0 (a0:(List Int))(s0_0:Int):St:=mkSt [(3,(.t (i64 0))),(6,(.t (.sl 1 ((a0:List Int).map eN)))),(7,(.t (i64 (lenM eN a0)))),(8,(.t (i64 s0_0)))] [] []
def zdk_q0_0 (a0:(List Int))(y:Int):St:=mkSt [(2,(.t (i64 y)))] [] []
def zdk_x0_0 (a0:(List Int))(Q:Int→Prop)(y:Int):Prop:=Lf .ret (zdk_q0_0 a0) y (Q y)
def zdk_q0_1 (a0:(List Int))(y:Unit):St:=mkSt [(3,(.t (i64 0)))] [] []
def zdk_x0_1 (a0:(List Int))(Q:Unit→Prop)(y:Unit):Prop:=Lf (.exit 0) (zdk_q0_1 a0) y (Q y)
def zdk_L0 (a0:(List Int))(Q0_:Int→Prop)(Q1_:Unit→Prop)(s0_0:Int):Prop:=LW Tryz.prog 18 (loopAt Tryz.f157 0) (Outs.K (.cons .ret [.keep [2] []] (zdk_q0_0 a0) Q0_ (.one (.exit 0) [.keep [3] []] (zdk_q0_1 a0) Q1_))) (zdk_s0 a0 s0_0)
def zdk_w0 (a0:(List Int))(X_:Int→Prop)(Q0_:Int→Prop)(Q1_:Unit→Prop)(s0_0:Int):Prop:=Br (decide (s0_0<(lenM eN a0))) (∃xa1:Int,Got eN a0 s0_0 xa1 (Br (xa1 != 0) (zdk_x0_0 a0 Q0_ xa1) (Num .i64 (s0_0+1) (X_ (s0_0+1))))) (zdk_x0_1 a0 Q1_ ())
def zdk_h0 (a0:(List Int))(s0_0:Int):HT (Int ⊕ Unit) := .both 9 (.ex (Int) fun xa1 => .op 4 0 (.row (s0_0:Int).toNat (eN xa1)) (.both 14 (.ret [.keep [2] []] (.inl xa1)) (.op 7 0 (.nw) (.round [.keep [3,6,7,8] []])))) (.ret [.keep [3] []] (.inr ()))
theorem zdk_l0 {a0 Q0_ Q1_ s0_0}(h:zdk_w0 a0 (zdk_L0 a0 Q0_ Q1_) Q0_ Q1_ s0_0):zdk_L0 a0 Q0_ Q1_ s0_0:=Qac _ (zdk_h0 a0 s0_0) h (by kernel_rfl)
def zdk_R (v:Int):A:=(.t (i64 v))
def zdk_O (v:Int):List (Nat×O):=[]
def zdk_e (Q:Int→Prop)(v:Int):Prop:=Rt (zdk_R) (zdk_O) v (Q v)
def zdk_r (a0:(List Int))(v:Int):Prop:=Con Tryz.prog 157 [(.t (.sl 1 ((a0:List Int).map eN)))] [] (fun r_ o_=>r_=zdk_R v∧o_=zdk_O v)
def zdk_w (a0:(List Int))(Q_:Int→Prop):Prop:=zdk_L0 a0 (fun(y1:Int)=>zdk_e Q_ y1) (fun(y1:Unit)=>zdk_e Q_ 0) 0
def zdk_h (a0:(List Int)):HT Int := .loop [.keep [3,6,7,8] []] (.out (Int) .ret [.keep [2] []] (zdk_q0_0 a0) (fun y1 => .fin [] [] y1) (.out (Unit) (.exit 0) [.keep [3] []] (zdk_q0_1 a0) (fun y1 => .fin [] [] 0) (.nil)))
theorem zdk_of {a0 v}(h:zdk_w a0 (fun v_=>v_=v)):zdk_r a0 v:=Qaa Tryz.call157 Tryz.func157 [] (zdk_h a0) h
def zgf_R (v:Int):A:=(.t (i64 v))
def zgf_O (v:Int):List (Nat×O):=[]
def zgf_e (Q:Int→Prop)(v:Int):Prop:=Rt (zgf_R) (zgf_O) v (Q v)
def zgf_r (a0:zaa)(a1:zaa)(v:Int):Prop:=Con Tryz.prog 107 [(.agg [(.t (str a0.Lot.ISIN)),(.t (i64 a0.Lot.Qty)),(.t (str a0.Asset.ISIN)),(.t (i64 a0.Asset.Issuer)),(.t (i64 a0.Asset.Rating)),(.t (i64 a0.Asset.Maturity)),(.t (str a0.Asset.Currency)),(.t (i64 a0.Price)),(.t (i64 a0.Cut))]),(.agg [(.t (str a1.Lot.ISIN)),(.t (i64 a1.Lot.Qty)),(.t (str a1.Asset.ISIN)),(.t (i64 a1.Asset.Issuer)),(.t (i64 a1.Asset.Rating)),(.t (i64 a1.Asset.Maturity)),(.t (str a1.Asset.Currency)),(.t (i64 a1.Price)),(.t (i64 a1.Cut))])] [] (fun r_ o_=>r_=zgf_R v∧o_=zgf_O v)
def zgf_w (a0:zaa)(a1:zaa)(Q_:Int→Prop):Prop:=∃r1:Int,(zem_r a0.Cut a1.Cut r1)∧(∃r2:Int,(zem_r a0.Asset.Maturity a1.Asset.Maturity r2)∧(∃r3:Int,(zdm_r a0.Lot.ISIN a1.Lot.ISIN r3)∧(∃r4:Int,(zdk_r [r1,r2,r3] r4)∧(zgf_e Q_ r4))))
def zgf_h (a0:zaa)(a1:zaa):HT Int := .ex (Int) fun r1 => .op 1 4 (.call [] (.t (i64 r1)) []) (.ex (Int) fun r2 => .op 1 11 (.call [] (.t (i64 r2)) []) (.ex (Int) fun r3 => .op 1 18 (.call [] (.t (i64 r3)) []) (.ex (Int) fun r4 => .op 1 20 (.ro (.t (i64 r4))) (.fin [] [] r4))))
theorem zgf_of {a0 a1 v}(h:zgf_w a0 a1 (fun v_=>v_=v)):zgf_r a0 a1 v:=Qaa Tryz.call107 Tryz.func107 [] (zgf_h a0 a1) h
def zah_s1 (a1:Int)(a2:Int)(s0_0:Int)(s1_0:Int)(s1_1:(List zaa)):St:=mkSt [(0,(.ref 620)),(1,(.t (i64 a1))),(2,(.t (i64 a2))),(3,(.fn 107 [])),(8,(.t (i64 s0_0))),(9,(.t (i64 s1_0)))] [(620,(.row 9 ((s1_1:List zaa).map zaa.enc)))] [620]
def zah_q1_0 (a1:Int)(a2:Int)(s0_0:Int)(y:(List zaa)):St:=mkSt [(0,(.ref 620)),(1,(.t (i64 a1))),(2,(.t (i64 a2))),(3,(.fn 107 [])),(8,(.t (i64 s0_0)))] [(620,(.row 9 ((y:List zaa).map zaa.enc)))] [620]
def zah_x1_0 (a1:Int)(a2:Int)(s0_0:Int)(Q:(List zaa)→Prop)(y:(List zaa)):Prop:=Lf (.exit 2) (zah_q1_0 a1 a2 s0_0) y (Q y)
def zah_L1 (a1:Int)(a2:Int)(s0_0:Int)(Q0_:(List zaa)→Prop)(s1_0:Int)(s1_1:(List zaa)):Prop:=LW Tryz.prog 53 (loopAt Tryz.f191 1) (Outs.K (.one (.exit 2) [.keep [0,1,2,3,8] [620]] (zah_q1_0 a1 a2 s0_0) Q0_)) (zah_s1 a1 a2 s0_0 s1_0 s1_1)
def zah_w1 (a1:Int)(a2:Int)(s0_0:Int)(X_:Int→(List zaa)→Prop)(Q0_:(List zaa)→Prop)(s1_0:Int)(s1_1:(List zaa)):Prop:=Br (decide (s1_0>a1)) (InL zaa.enc s1_1 s1_0 (∃xb1:zaa,EltG zaa.enc s1_1 s1_0 xb1 (Num .i64 (s1_0-1) (InL zaa.enc s1_1 (s1_0-1) (∃xb2:zaa,EltG zaa.enc s1_1 (s1_0-1) xb2 (∃rb3:Int,(zgf_r xb1 xb2 rb3)∧(Br (decide (rb3<0)) (Num .i64 (s1_0-1) (Num .i64 (s1_0-1) (InL zaa.enc s1_1 (s1_0-1) (EltG zaa.enc s1_1 (s1_0-1) xb2 (InL zaa.enc s1_1 s1_0 (EltG zaa.enc s1_1 s1_0 xb1 (InL zaa.enc s1_1 s1_0 (EltS zaa.enc s1_1 s1_0 xb1 xb2 (InL zaa.enc (s1_1.set (s1_0:Int).toNat xb2) (s1_0-1) (∃xb4:zaa,EltS zaa.enc (s1_1.set (s1_0:Int).toNat xb2) (s1_0-1) xb4 xb1 (Num .i64 (s1_0-1) (X_ (s1_0-1) ((s1_1.set (s1_0:Int).toNat xb2).set ((s1_0-1):Int).toNat xb1))))))))))))) (zah_x1_0 a1 a2 s0_0 Q0_ s1_1)))))))) (zah_x1_0 a1 a2 s0_0 Q0_ s1_1)
def zah_h1 (a1:Int)(a2:Int)(s0_0:Int)(s1_0:Int)(s1_1:(List zaa)):HT (List zaa) := .bo 4 3 (.op 4 7 (.ix (s1_0:Int).toNat) (.ex (zaa) fun xb1 => .op 4 8 (.row (s1_0:Int).toNat (zaa.enc xb1)) (.op 4 11 (.nw) (.op 4 12 (.ix ((s1_0-1):Int).toNat) (.ex (zaa) fun xb2 => .op 4 13 (.row ((s1_0-1):Int).toNat (zaa.enc xb2)) (.ex (Int) fun rb3 => .op 4 14 (.call [] (.t (i64 rb3)) []) (.both 34 (.op 6 4 (.nw) (.op 6 7 (.nw) (.op 6 8 (.ix ((s1_0-1):Int).toNat) (.op 6 9 (.row ((s1_0-1):Int).toNat (zaa.enc xb2)) (.op 6 12 (.ix (s1_0:Int).toNat) (.op 6 13 (.row (s1_0:Int).toNat (zaa.enc xb1)) (.op 6 14 (.ix (s1_0:Int).toNat) (.op 6 15 (.row (s1_0:Int).toNat (zaa.enc xb1)) (.rw 620 (((s1_1.set (s1_0:Int).toNat xb2):List zaa).map zaa.enc) (.op 6 16 (.ix ((s1_0-1):Int).toNat) (.ex (zaa) fun xb4 => .op 6 17 (.row ((s1_0-1):Int).toNat (zaa.enc xb4)) (.rw 620 ((((s1_1.set (s1_0:Int).toNat xb2).set ((s1_0-1):Int).toNat xb1):List zaa).map zaa.enc) (.op 5 1 (.nw) (.round [.keep [0,1,2,3,8,9] [620]])))))))))))))) (.ret [.keep [0,1,2,3,8] [620]] s1_1)))))))) (.ret [.keep [0,1,2,3,8] [620]] s1_1)
theorem zah_l1 {a1 a2 s0_0 Q0_ s1_0 s1_1}(h:zah_w1 a1 a2 s0_0 (zah_L1 a1 a2 s0_0 Q0_) Q0_ s1_0 s1_1):zah_L1 a1 a2 s0_0 Q0_ s1_0 s1_1:=Qac _ (zah_h1 a1 a2 s0_0 s1_0 s1_1) h (by kernel_rfl)
def zah_s0 (a1:Int)(a2:Int)(s0_0:Int)(s0_1:(List zaa)):St:=mkSt [(0,(.ref 620)),(1,(.t (i64 a1))),(2,(.t (i64 a2))),(3,(.fn 107 [])),(8,(.t (i64 s0_0)))] [(620,(.row 9 ((s0_1:List zaa).map zaa.enc)))] [620]
def zah_q0_0 (a1:Int)(a2:Int)(y:(List zaa)):St:=mkSt [] [(620,(.row 9 ((y:List zaa).map zaa.enc)))] [620]
def zah_x0_0 (a1:Int)(a2:Int)(Q:(List zaa)→Prop)(y:(List zaa)):Prop:=Lf (.exit 0) (zah_q0_0 a1 a2) y (Q y)
def zah_L0 (a1:Int)(a2:Int)(Q0_:(List zaa)→Prop)(s0_0:Int)(s0_1:(List zaa)):Prop:=LW Tryz.prog 53 (loopAt Tryz.f191 0) (Outs.K (.one (.exit 0) [.keep [] [620]] (zah_q0_0 a1 a2) Q0_)) (zah_s0 a1 a2 s0_0 s0_1)
def zah_w0 (a1:Int)(a2:Int)(X_:Int→(List zaa)→Prop)(Q0_:(List zaa)→Prop)(s0_0:Int)(s0_1:(List zaa)):Prop:=Br (decide (s0_0<a2)) (zah_L1 a1 a2 s0_0 (fun(ya1:(List zaa))=>Num .i64 (s0_0+1) (X_ (s0_0+1) ya1)) s0_0 s0_1) (zah_x0_0 a1 a2 Q0_ s0_1)
def zah_h0 (a1:Int)(a2:Int)(s0_0:Int)(s0_1:(List zaa)):HT (List zaa) := .both 14 (.loop [.keep [0,1,2,3,8,9] [620]] (.out ((List zaa)) (.exit 2) [.keep [0,1,2,3,8] [620]] (zah_q1_0 a1 a2 s0_0) (fun ya1 => .op 2 1 (.nw) (.round [.keep [0,1,2,3,8] [620]])) (.nil))) (.ret [.keep [] [620]] s0_1)
theorem zah_l0 {a1 a2 Q0_ s0_0 s0_1}(h:zah_w0 a1 a2 (zah_L0 a1 a2 Q0_) Q0_ s0_0 s0_1):zah_L0 a1 a2 Q0_ s0_0 s0_1:=Qac _ (zah_h0 a1 a2 s0_0 s0_1) h (by kernel_rfl)
def zah_R (v:(List zaa)):A:=(.tup [])
def zah_O (v:(List zaa)):List (Nat×O):=[(620,(.row 9 ((v:List zaa).map zaa.enc)))]
def zah_e (Q:(List zaa)→Prop)(v:(List zaa)):Prop:=Rt (zah_R) (zah_O) v (Q v)
def zah_r (a0:(List zaa))(a1:Int)(a2:Int)(v:(List zaa)):Prop:=Con Tryz.prog 191 [(.ref 620),(.t (i64 a1)),(.t (i64 a2)),(.fn 107 [])] [(620,(.row 9 ((a0:List zaa).map zaa.enc)))] (fun r_ o_=>r_=zah_R v∧o_=zah_O v)
def zah_w (a0:(List zaa))(a1:Int)(a2:Int)(Q_:(List zaa)→Prop):Prop:=Num .i64 (a1+1) (zah_L0 a1 a2 (fun(y1:(List zaa))=>zah_e Q_ y1) (a1+1) a0)
def zah_h (a0:(List zaa))(a1:Int)(a2:Int):HT (List zaa) := .op 0 1 (.nw) (.loop [.keep [0,1,2,3,8] [620]] (.out ((List zaa)) (.exit 0) [.keep [] [620]] (zah_q0_0 a1 a2) (fun y1 => .fin [] [] y1) (.nil)))
theorem zah_of {a0 a1 a2 v}(h:zah_w a0 a1 a2 (fun v_=>v_=v)):zah_r a0 a1 a2 v:=Qaa Tryz.call191 Tryz.func191 [620] (zah_h a0 a1 a2) h
def zas_s0 (a1:Int)(a2:Int)(a3:Int)(s0_0:Int)(s0_1:(List zaa)):St:=mkSt [(0,(.ref 620)),(1,(.t (i64 a1))),(2,(.t (i64 a2))),(3,(.t (i64 a3))),(10,(.t (i64 s0_0)))] [(620,(.row 9 ((s0_1:List zaa).map zaa.enc)))] [620]
def zas_q0_0 (a1:Int)(a2:Int)(a3:Int)(y:(List zaa)):St:=mkSt [] [(620,(.row 9 ((y:List zaa).map zaa.enc)))] [620]
def zas_x0_0 (a1:Int)(a2:Int)(a3:Int)(Q:(List zaa)→Prop)(y:(List zaa)):Prop:=Lf (.exit 0) (zas_q0_0 a1 a2 a3) y (Q y)
def zas_L0 (a1:Int)(a2:Int)(a3:Int)(Q0_:(List zaa)→Prop)(s0_0:Int)(s0_1:(List zaa)):Prop:=LW Tryz.prog 38 (loopAt Tryz.f212 0) (Outs.K (.one (.exit 0) [.keep [] [620]] (zas_q0_0 a1 a2 a3) Q0_)) (zas_s0 a1 a2 a3 s0_0 s0_1)
def zas_w0 (a1:Int)(a2:Int)(a3:Int)(X_:Int→(List zaa)→Prop)(Q0_:(List zaa)→Prop)(s0_0:Int)(s0_1:(List zaa)):Prop:=Br (decide (s0_0<a3)) (Num .i64 (a1+s0_0) (Num .i64 (a2+s0_0) (Num .i64 (a2+s0_0) (InL zaa.enc s0_1 (a2+s0_0) (∃xa1:zaa,EltG zaa.enc s0_1 (a2+s0_0) xa1 (Num .i64 (a1+s0_0) (InL zaa.enc s0_1 (a1+s0_0) (∃xa2:zaa,EltG zaa.enc s0_1 (a1+s0_0) xa2 (InL zaa.enc s0_1 (a1+s0_0) (EltS zaa.enc s0_1 (a1+s0_0) xa2 xa1 (InL zaa.enc (s0_1.set ((a1+s0_0):Int).toNat xa1) (a2+s0_0) (∃xa3:zaa,EltS zaa.enc (s0_1.set ((a1+s0_0):Int).toNat xa1) (a2+s0_0) xa3 xa2 (Num .i64 (s0_0+1) (X_ (s0_0+1) ((s0_1.set ((a1+s0_0):Int).toNat xa1).set ((a2+s0_0):Int).toNat xa2))))))))))))))) (zas_x0_0 a1 a2 a3 Q0_ s0_1)
def zas_h0 (a1:Int)(a2:Int)(a3:Int)(s0_0:Int)(s0_1:(List zaa)):HT (List zaa) := .both 13 (.op 3 3 (.nw) (.op 3 7 (.nw) (.op 3 11 (.nw) (.op 3 12 (.ix ((a2+s0_0):Int).toNat) (.ex (zaa) fun xa1 => .op 3 13 (.row ((a2+s0_0):Int).toNat (zaa.enc xa1)) (.op 3 17 (.nw) (.op 3 18 (.ix ((a1+s0_0):Int).toNat) (.ex (zaa) fun xa2 => .op 3 19 (.row ((a1+s0_0):Int).toNat (zaa.enc xa2)) (.op 3 20 (.ix ((a1+s0_0):Int).toNat) (.op 3 21 (.row ((a1+s0_0):Int).toNat (zaa.enc xa2)) (.rw 620 (((s0_1.set ((a1+s0_0):Int).toNat xa1):List zaa).map zaa.enc) (.op 3 22 (.ix ((a2+s0_0):Int).toNat) (.ex (zaa) fun xa3 => .op 3 23 (.row ((a2+s0_0):Int).toNat (zaa.enc xa3)) (.rw 620 ((((s0_1.set ((a1+s0_0):Int).toNat xa1).set ((a2+s0_0):Int).toNat xa2):List zaa).map zaa.enc) (.op 2 1 (.nw) (.round [.keep [0,1,2,3,10] [620]])))))))))))))))) (.ret [.keep [] [620]] s0_1)
theorem zas_l0 {a1 a2 a3 Q0_ s0_0 s0_1}(h:zas_w0 a1 a2 a3 (zas_L0 a1 a2 a3 Q0_) Q0_ s0_0 s0_1):zas_L0 a1 a2 a3 Q0_ s0_0 s0_1:=Qac _ (zas_h0 a1 a2 a3 s0_0 s0_1) h (by kernel_rfl)
def zas_R (v:(List zaa)):A:=(.tup [])
def zas_O (v:(List zaa)):List (Nat×O):=[(620,(.row 9 ((v:List zaa).map zaa.enc)))]
def zas_e (Q:(List zaa)→Prop)(v:(List zaa)):Prop:=Rt (zas_R) (zas_O) v (Q v)
def zas_r (a0:(List zaa))(a1:Int)(a2:Int)(a3:Int)(v:(List zaa)):Prop:=Con Tryz.prog 212 [(.ref 620),(.t (i64 a1)),(.t (i64 a2)),(.t (i64 a3)),(.fn 107 [])] [(620,(.row 9 ((a0:List zaa).map zaa.enc)))] (fun r_ o_=>r_=zas_R v∧o_=zas_O v)
def zas_w (a0:(List zaa))(a1:Int)(a2:Int)(a3:Int)(Q_:(List zaa)→Prop):Prop:=zas_L0 a1 a2 a3 (fun(y1:(List zaa))=>zas_e Q_ y1) 0 a0
def zas_h (a0:(List zaa))(a1:Int)(a2:Int)(a3:Int):HT (List zaa) := .loop [.keep [0,1,2,3,10] [620]] (.out ((List zaa)) (.exit 0) [.keep [] [620]] (zas_q0_0 a1 a2 a3) (fun y1 => .fin [] [] y1) (.nil))
theorem zas_of {a0 a1 a2 a3 v}(h:zas_w a0 a1 a2 a3 (fun v_=>v_=v)):zas_r a0 a1 a2 a3 v:=Qaa Tryz.call212 Tryz.func212 [620] (zas_h a0 a1 a2 a3) h
def zav_s0 (a2:Int)(s0_0:Int)(s0_1:(List zaa))(s0_2:Int):St:=mkSt [(0,(.ref 620)),(2,(.t (i64 a2))),(4,(.fn 107 [])),(10,(.t (i64 s0_0))),(11,(.t (i64 s0_2)))] [(620,(.row 9 ((s0_1:List zaa).map zaa.enc)))] [620]
def zav_q0_0 (a2:Int)(y:Int×(List zaa)):St:=mkSt [(0,(.ref 620)),(2,(.t (i64 a2))),(4,(.fn 107 [])),(10,(.t (i64 y.1)))] [(620,(.row 9 ((y.2:List zaa).map zaa.enc)))] [620]
def zav_x0_0 (a2:Int)(Q:(Int×(List zaa))→Prop)(y:Int×(List zaa)):Prop:=Lf (.exit 0) (zav_q0_0 a2) y (Q y)
def zav_L0 (a2:Int)(Q0_:(Int×(List zaa))→Prop)(s0_0:Int)(s0_1:(List zaa))(s0_2:Int):Prop:=LW Tryz.prog 58 (loopAt Tryz.f205 0) (Outs.K (.one (.exit 0) [.keep [0,2,4,10] [620]] (zav_q0_0 a2) Q0_)) (zav_s0 a2 s0_0 s0_1 s0_2)
def zav_w0 (a2:Int)(X_:Int→(List zaa)→Int→Prop)(Q0_:(Int×(List zaa))→Prop)(s0_0:Int)(s0_1:(List zaa))(s0_2:Int):Prop:=Br (s0_0 != s0_2) (Br (decide (s0_0>s0_2)) (Num .i64 (a2-s0_0) (∃ra1:(List zaa),(zas_r s0_1 (a2-s0_0) a2 s0_2 ra1)∧(Num .i64 (s0_0-s0_2) (X_ (s0_0-s0_2) ra1 s0_2)))) (Num .i64 (a2-s0_0) (Num .i64 (a2+s0_2) (Num .i64 ((a2+s0_2)-s0_0) (∃ra1:(List zaa),(zas_r s0_1 (a2-s0_0) ((a2+s0_2)-s0_0) s0_0 ra1)∧(Num .i64 (s0_2-s0_0) (X_ s0_0 ra1 (s0_2-s0_0)))))))) (zav_x0_0 a2 Q0_ (s0_0,s0_1))
def zav_h0 (a2:Int)(s0_0:Int)(s0_1:(List zaa))(s0_2:Int):HT (Int×(List zaa)) := .both 20 (.both 23 (.op 4 3 (.nw) (.ex ((List zaa)) fun ra1 => .op 4 7 (.call [620] (.tup []) [(620,(.row 9 ((ra1:List zaa).map zaa.enc)))]) (.op 5 2 (.nw) (.round [.keep [0,2,4,10,11] [620]])))) (.op 6 3 (.nw) (.op 6 6 (.nw) (.op 6 8 (.nw) (.ex ((List zaa)) fun ra1 => .op 6 11 (.call [620] (.tup []) [(620,(.row 9 ((ra1:List zaa).map zaa.enc)))]) (.op 7 2 (.nw) (.round [.keep [0,2,4,10,11] [620]]))))))) (.ret [.keep [0,2,4,10] [620]] (s0_0,s0_1))
theorem zav_l0 {a2 Q0_ s0_0 s0_1 s0_2}(h:zav_w0 a2 (zav_L0 a2 Q0_) Q0_ s0_0 s0_1 s0_2):zav_L0 a2 Q0_ s0_0 s0_1 s0_2:=Qac _ (zav_h0 a2 s0_0 s0_1 s0_2) h (by kernel_rfl)
def zav_R (v:(List zaa)):A:=(.tup [])
def zav_O (v:(List zaa)):List (Nat×O):=[(620,(.row 9 ((v:List zaa).map zaa.enc)))]
def zav_e (Q:(List zaa)→Prop)(v:(List zaa)):Prop:=Rt (zav_R) (zav_O) v (Q v)
def zav_r (a0:(List zaa))(a1:Int)(a2:Int)(a3:Int)(v:(List zaa)):Prop:=Con Tryz.prog 205 [(.ref 620),(.t (i64 a1)),(.t (i64 a2)),(.t (i64 a3)),(.fn 107 [])] [(620,(.row 9 ((a0:List zaa).map zaa.enc)))] (fun r_ o_=>r_=zav_R v∧o_=zav_O v)
def zav_w (a0:(List zaa))(a1:Int)(a2:Int)(a3:Int)(Q_:(List zaa)→Prop):Prop:=Num .i64 (a2-a1) (Num .i64 (a3-a2) (zav_L0 a2 (fun(y1:Int×(List zaa))=>Num .i64 (a2-y1.1) (∃r2:(List zaa),(zas_r y1.2 (a2-y1.1) a2 y1.1 r2)∧(zav_e Q_ r2))) (a2-a1) a0 (a3-a2)))
def zav_h (a0:(List zaa))(a1:Int)(a2:Int)(a3:Int):HT (List zaa) := .op 0 2 (.nw) (.op 1 2 (.nw) (.loop [.keep [0,2,4,10,11] [620]] (.out (Int×(List zaa)) (.exit 0) [.keep [0,2,4,10] [620]] (zav_q0_0 a2) (fun y1 => .op 8 3 (.nw) (.ex ((List zaa)) fun r2 => .op 8 7 (.call [620] (.tup []) [(620,(.row 9 ((r2:List zaa).map zaa.enc)))]) (.fin [] [] r2))) (.nil))))
theorem zav_of {a0 a1 a2 a3 v}(h:zav_w a0 a1 a2 a3 (fun v_=>v_=v)):zav_r a0 a1 a2 a3 v:=Qaa Tryz.call205 Tryz.func205 [620] (zav_h a0 a1 a2 a3) h
def zac_s4 (a1:Int)(a2:Int)(a3:Int)(a0:(List zaa))(s4_0:Int)(s4_1:Int):St:=mkSt [(0,(.ref 620)),(1,(.t (i64 a1))),(2,(.t (i64 a2))),(3,(.t (i64 a3))),(4,(.fn 107 [])),(18,(.t (i64 (IntKind.wrap .i64 (Int.fdiv (IntKind.wrap .u64 (a1+a3)) 2))))),(19,(.t (i64 ((IntKind.wrap .i64 (Int.fdiv (IntKind.wrap .u64 (a1+a3)) 2))+a2)))),(20,(.t (i64 s4_0))),(21,(.t (i64 s4_1))),(22,(.t (i64 (((IntKind.wrap .i64 (Int.fdiv (IntKind.wrap .u64 (a1+a3)) 2))+a2)-1))))] [(620,(.row 9 ((a0:List zaa).map zaa.enc)))] [620]
def zac_q4_0 (a1:Int)(a2:Int)(a3:Int)(a0:(List zaa))(y:Int):St:=mkSt [(0,(.ref 620)),(1,(.t (i64 a1))),(2,(.t (i64 a2))),(3,(.t (i64 a3))),(4,(.fn 107 [])),(18,(.t (i64 (IntKind.wrap .i64 (Int.fdiv (IntKind.wrap .u64 (a1+a3)) 2))))),(19,(.t (i64 ((IntKind.wrap .i64 (Int.fdiv (IntKind.wrap .u64 (a1+a3)) 2))+a2)))),(20,(.t (i64 y)))] [(620,(.row 9 ((a0:List zaa).map zaa.enc)))] [620]
def zac_x4_0 (a1:Int)(a2:Int)(a3:Int)(a0:(List zaa))(Q:Int→Prop)(y:Int):Prop:=Lf (.exit 8) (zac_q4_0 a1 a2 a3 a0) y (Q y)
def zac_L4 (a1:Int)(a2:Int)(a3:Int)(a0:(List zaa))(Q0_:Int→Prop)(s4_0:Int)(s4_1:Int):Prop:=LW Tryz.prog 220 (loopAt Tryz.f192 4) (Outs.K (.one (.exit 8) [.keep [0,1,2,3,4,18,19,20] [620]] (zac_q4_0 a1 a2 a3 a0) Q0_)) (zac_s4 a1 a2 a3 a0 s4_0 s4_1)
def zac_w4 (a1:Int)(a2:Int)(a3:Int)(a0:(List zaa))(X_:Int→Int→Prop)(Q0_:Int→Prop)(s4_0:Int)(s4_1:Int):Prop:=Br (decide (s4_0<s4_1)) (Num .i64 (s4_0+s4_1) (Num .i64 ((((IntKind.wrap .i64 (Int.fdiv (IntKind.wrap .u64 (a1+a3)) 2))+a2)-1)-(IntKind.wrap .i64 (Int.fdiv (IntKind.wrap .u64 (s4_0+s4_1)) 2))) (InL zaa.enc a0 ((((IntKind.wrap .i64 (Int.fdiv (IntKind.wrap .u64 (a1+a3)) 2))+a2)-1)-(IntKind.wrap .i64 (Int.fdiv (IntKind.wrap .u64 (s4_0+s4_1)) 2))) (∃xe1:zaa,EltG zaa.enc a0 ((((IntKind.wrap .i64 (Int.fdiv (IntKind.wrap .u64 (a1+a3)) 2))+a2)-1)-(IntKind.wrap .i64 (Int.fdiv (IntKind.wrap .u64 (s4_0+s4_1)) 2))) xe1 (InL zaa.enc a0 (IntKind.wrap .i64 (Int.fdiv (IntKind.wrap .u64 (s4_0+s4_1)) 2)) (∃xe2:zaa,EltG zaa.enc a0 (IntKind.wrap .i64 (Int.fdiv (IntKind.wrap .u64 (s4_0+s4_1)) 2)) xe2 (∃re3:Int,(zgf_r xe1 xe2 re3)∧(Br (!(decide (re3<0))) (Num .i64 ((IntKind.wrap .i64 (Int.fdiv (IntKind.wrap .u64 (s4_0+s4_1)) 2))+1) (X_ ((IntKind.wrap .i64 (Int.fdiv (IntKind.wrap .u64 (s4_0+s4_1)) 2))+1) s4_1)) (X_ s4_0 (IntKind.wrap .i64 (Int.fdiv (IntKind.wrap .u64 (s4_0+s4_1)) 2))))))))))) (zac_x4_0 a1 a2 a3 a0 Q0_ s4_0)
def zac_h4 (a1:Int)(a2:Int)(a3:Int)(a0:(List zaa))(s4_0:Int)(s4_1:Int):HT Int := .both 151 (.op 34 2 (.nw) (.op 35 4 (.nw) (.op 35 5 (.ix (((((IntKind.wrap .i64 (Int.fdiv (IntKind.wrap .u64 (a1+a3)) 2))+a2)-1)-(IntKind.wrap .i64 (Int.fdiv (IntKind.wrap .u64 (s4_0+s4_1)) 2))):Int).toNat) (.ex (zaa) fun xe1 => .op 35 6 (.row (((((IntKind.wrap .i64 (Int.fdiv (IntKind.wrap .u64 (a1+a3)) 2))+a2)-1)-(IntKind.wrap .i64 (Int.fdiv (IntKind.wrap .u64 (s4_0+s4_1)) 2))):Int).toNat (zaa.enc xe1)) (.op 35 9 (.ix ((IntKind.wrap .i64 (Int.fdiv (IntKind.wrap .u64 (s4_0+s4_1)) 2)):Int).toNat) (.ex (zaa) fun xe2 => .op 35 10 (.row ((IntKind.wrap .i64 (Int.fdiv (IntKind.wrap .u64 (s4_0+s4_1)) 2)):Int).toNat (zaa.enc xe2)) (.ex (Int) fun re3 => .op 35 11 (.call [] (.t (i64 re3)) []) (.both 171 (.op 36 1 (.nw) (.round [.keep [0,1,2,3,4,18,19,20,21,22] [620]])) (.round [.keep [0,1,2,3,4,18,19,20,21,22] [620]]))))))))) (.ret [.keep [0,1,2,3,4,18,19,20] [620]] s4_0)
theorem zac_l4 {a1 a2 a3 a0 Q0_ s4_0 s4_1}(h:zac_w4 a1 a2 a3 a0 (zac_L4 a1 a2 a3 a0 Q0_) Q0_ s4_0 s4_1):zac_L4 a1 a2 a3 a0 Q0_ s4_0 s4_1:=Qac _ (zac_h4 a1 a2 a3 a0 s4_0 s4_1) h (by kernel_rfl)
def zac_s3 (y1:Int)(s3_0:Int)(s3_1:(List zaa)):St:=mkSt [(0,(.ref 620)),(14,(.t (i64 y1))),(17,(.t (i64 s3_0)))] [(620,(.row 9 ((s3_1:List zaa).map zaa.enc)))] [620]
def zac_q3_0 (y1:Int)(y:(List zaa)):St:=mkSt [] [(620,(.row 9 ((y:List zaa).map zaa.enc)))] [620]
def zac_x3_0 (y1:Int)(Q:(List zaa)→Prop)(y:(List zaa)):Prop:=Lf (.exit 6) (zac_q3_0 y1) y (Q y)
def zac_L3 (y1:Int)(Q0_:(List zaa)→Prop)(s3_0:Int)(s3_1:(List zaa)):Prop:=LW Tryz.prog 220 (loopAt Tryz.f192 3) (Outs.K (.one (.exit 6) [.keep [] [620]] (zac_q3_0 y1) Q0_)) (zac_s3 y1 s3_0 s3_1)
def zac_w3 (y1:Int)(X_:Int→(List zaa)→Prop)(Q0_:(List zaa)→Prop)(s3_0:Int)(s3_1:(List zaa)):Prop:=Br (decide (s3_0>y1)) (Num .i64 (s3_0-1) (Num .i64 (s3_0-1) (InL zaa.enc s3_1 (s3_0-1) (∃xd1:zaa,EltG zaa.enc s3_1 (s3_0-1) xd1 (InL zaa.enc s3_1 s3_0 (∃xd2:zaa,EltG zaa.enc s3_1 s3_0 xd2 (InL zaa.enc s3_1 s3_0 (EltS zaa.enc s3_1 s3_0 xd2 xd1 (InL zaa.enc (s3_1.set (s3_0:Int).toNat xd1) (s3_0-1) (∃xd3:zaa,EltS zaa.enc (s3_1.set (s3_0:Int).toNat xd1) (s3_0-1) xd3 xd2 (Num .i64 (s3_0-1) (X_ (s3_0-1) ((s3_1.set (s3_0:Int).toNat xd1).set ((s3_0-1):Int).toNat xd2))))))))))))) (zac_x3_0 y1 Q0_ s3_1)
def zac_h3 (y1:Int)(s3_0:Int)(s3_1:(List zaa)):HT (List zaa) := .both 110 (.op 23 4 (.nw) (.op 23 7 (.nw) (.op 23 8 (.ix ((s3_0-1):Int).toNat) (.ex (zaa) fun xd1 => .op 23 9 (.row ((s3_0-1):Int).toNat (zaa.enc xd1)) (.op 23 12 (.ix (s3_0:Int).toNat) (.ex (zaa) fun xd2 => .op 23 13 (.row (s3_0:Int).toNat (zaa.enc xd2)) (.op 23 14 (.ix (s3_0:Int).toNat) (.op 23 15 (.row (s3_0:Int).toNat (zaa.enc xd2)) (.rw 620 (((s3_1.set (s3_0:Int).toNat xd1):List zaa).map zaa.enc) (.op 23 16 (.ix ((s3_0-1):Int).toNat) (.ex (zaa) fun xd3 => .op 23 17 (.row ((s3_0-1):Int).toNat (zaa.enc xd3)) (.rw 620 ((((s3_1.set (s3_0:Int).toNat xd1).set ((s3_0-1):Int).toNat xd2):List zaa).map zaa.enc) (.op 22 1 (.nw) (.round [.keep [0,14,17] [620]])))))))))))))) (.ret [.keep [] [620]] s3_1)
theorem zac_l3 {y1 Q0_ s3_0 s3_1}(h:zac_w3 y1 (zac_L3 y1 Q0_) Q0_ s3_0 s3_1):zac_L3 y1 Q0_ s3_0 s3_1:=Qac _ (zac_h3 y1 s3_0 s3_1) h (by kernel_rfl)
def zac_s2 (a2:Int)(a0:(List zaa))(s2_0:Int)(s2_1:Int):St:=mkSt [(0,(.ref 620)),(2,(.t (i64 a2))),(4,(.fn 107 [])),(14,(.t (i64 s2_0))),(15,(.t (i64 s2_1)))] [(620,(.row 9 ((a0:List zaa).map zaa.enc)))] [620]
def zac_q2_0 (a2:Int)(a0:(List zaa))(y:Int):St:=mkSt [(0,(.ref 620)),(2,(.t (i64 a2))),(14,(.t (i64 y)))] [(620,(.row 9 ((a0:List zaa).map zaa.enc)))] [620]
def zac_x2_0 (a2:Int)(a0:(List zaa))(Q:Int→Prop)(y:Int):Prop:=Lf (.exit 4) (zac_q2_0 a2 a0) y (Q y)
def zac_L2 (a2:Int)(a0:(List zaa))(Q0_:Int→Prop)(s2_0:Int)(s2_1:Int):Prop:=LW Tryz.prog 220 (loopAt Tryz.f192 2) (Outs.K (.one (.exit 4) [.keep [0,2,14] [620]] (zac_q2_0 a2 a0) Q0_)) (zac_s2 a2 a0 s2_0 s2_1)
def zac_w2 (a2:Int)(a0:(List zaa))(X_:Int→Int→Prop)(Q0_:Int→Prop)(s2_0:Int)(s2_1:Int):Prop:=Br (decide (s2_0<s2_1)) (Num .i64 (s2_0+s2_1) (InL zaa.enc a0 a2 (∃xc1:zaa,EltG zaa.enc a0 a2 xc1 (InL zaa.enc a0 (IntKind.wrap .i64 (Int.fdiv (IntKind.wrap .u64 (s2_0+s2_1)) 2)) (∃xc2:zaa,EltG zaa.enc a0 (IntKind.wrap .i64 (Int.fdiv (IntKind.wrap .u64 (s2_0+s2_1)) 2)) xc2 (∃rc3:Int,(zgf_r xc1 xc2 rc3)∧(Br (!(decide (rc3<0))) (Num .i64 ((IntKind.wrap .i64 (Int.fdiv (IntKind.wrap .u64 (s2_0+s2_1)) 2))+1) (X_ ((IntKind.wrap .i64 (Int.fdiv (IntKind.wrap .u64 (s2_0+s2_1)) 2))+1) s2_1)) (X_ s2_0 (IntKind.wrap .i64 (Int.fdiv (IntKind.wrap .u64 (s2_0+s2_1)) 2)))))))))) (zac_x2_0 a2 a0 Q0_ s2_0)
def zac_h2 (a2:Int)(a0:(List zaa))(s2_0:Int)(s2_1:Int):HT Int := .both 85 (.op 16 2 (.nw) (.op 17 3 (.ix (a2:Int).toNat) (.ex (zaa) fun xc1 => .op 17 4 (.row (a2:Int).toNat (zaa.enc xc1)) (.op 17 7 (.ix ((IntKind.wrap .i64 (Int.fdiv (IntKind.wrap .u64 (s2_0+s2_1)) 2)):Int).toNat) (.ex (zaa) fun xc2 => .op 17 8 (.row ((IntKind.wrap .i64 (Int.fdiv (IntKind.wrap .u64 (s2_0+s2_1)) 2)):Int).toNat (zaa.enc xc2)) (.ex (Int) fun rc3 => .op 17 9 (.call [] (.t (i64 rc3)) []) (.both 103 (.op 18 1 (.nw) (.round [.keep [0,2,4,14,15] [620]])) (.round [.keep [0,2,4,14,15] [620]])))))))) (.ret [.keep [0,2,14] [620]] s2_0)
theorem zac_l2 {a2 a0 Q0_ s2_0 s2_1}(h:zac_w2 a2 a0 (zac_L2 a2 a0 Q0_) Q0_ s2_0 s2_1):zac_L2 a2 a0 Q0_ s2_0 s2_1:=Qac _ (zac_h2 a2 a0 s2_0 s2_1) h (by kernel_rfl)
def zac_s1 (y1:Int)(s1_0:Int)(s1_1:(List zaa)):St:=mkSt [(0,(.ref 620)),(10,(.t (i64 y1))),(13,(.t (i64 s1_0)))] [(620,(.row 9 ((s1_1:List zaa).map zaa.enc)))] [620]
def zac_q1_0 (y1:Int)(y:(List zaa)):St:=mkSt [] [(620,(.row 9 ((y:List zaa).map zaa.enc)))] [620]
def zac_x1_0 (y1:Int)(Q:(List zaa)→Prop)(y:(List zaa)):Prop:=Lf (.exit 2) (zac_q1_0 y1) y (Q y)
def zac_L1 (y1:Int)(Q0_:(List zaa)→Prop)(s1_0:Int)(s1_1:(List zaa)):Prop:=LW Tryz.prog 220 (loopAt Tryz.f192 1) (Outs.K (.one (.exit 2) [.keep [] [620]] (zac_q1_0 y1) Q0_)) (zac_s1 y1 s1_0 s1_1)
def zac_w1 (y1:Int)(X_:Int→(List zaa)→Prop)(Q0_:(List zaa)→Prop)(s1_0:Int)(s1_1:(List zaa)):Prop:=Num .i64 (y1-1) (Br (decide (s1_0<(y1-1))) (Num .i64 (s1_0+1) (Num .i64 (s1_0+1) (InL zaa.enc s1_1 (s1_0+1) (∃xb1:zaa,EltG zaa.enc s1_1 (s1_0+1) xb1 (InL zaa.enc s1_1 s1_0 (∃xb2:zaa,EltG zaa.enc s1_1 s1_0 xb2 (InL zaa.enc s1_1 s1_0 (EltS zaa.enc s1_1 s1_0 xb2 xb1 (InL zaa.enc (s1_1.set (s1_0:Int).toNat xb1) (s1_0+1) (∃xb3:zaa,EltS zaa.enc (s1_1.set (s1_0:Int).toNat xb1) (s1_0+1) xb3 xb2 (Num .i64 (s1_0+1) (X_ (s1_0+1) ((s1_1.set (s1_0:Int).toNat xb1).set ((s1_0+1):Int).toNat xb2))))))))))))) (zac_x1_0 y1 Q0_ s1_1))
def zac_h1 (y1:Int)(s1_0:Int)(s1_1:(List zaa)):HT (List zaa) := .op 9 2 (.nw) (.both 58 (.op 11 4 (.nw) (.op 11 7 (.nw) (.op 11 8 (.ix ((s1_0+1):Int).toNat) (.ex (zaa) fun xb1 => .op 11 9 (.row ((s1_0+1):Int).toNat (zaa.enc xb1)) (.op 11 12 (.ix (s1_0:Int).toNat) (.ex (zaa) fun xb2 => .op 11 13 (.row (s1_0:Int).toNat (zaa.enc xb2)) (.op 11 14 (.ix (s1_0:Int).toNat) (.op 11 15 (.row (s1_0:Int).toNat (zaa.enc xb2)) (.rw 620 (((s1_1.set (s1_0:Int).toNat xb1):List zaa).map zaa.enc) (.op 11 16 (.ix ((s1_0+1):Int).toNat) (.ex (zaa) fun xb3 => .op 11 17 (.row ((s1_0+1):Int).toNat (zaa.enc xb3)) (.rw 620 ((((s1_1.set (s1_0:Int).toNat xb1).set ((s1_0+1):Int).toNat xb2):List zaa).map zaa.enc) (.op 10 1 (.nw) (.round [.keep [0,10,13] [620]])))))))))))))) (.ret [.keep [] [620]] s1_1))
theorem zac_l1 {y1 Q0_ s1_0 s1_1}(h:zac_w1 y1 (zac_L1 y1 Q0_) Q0_ s1_0 s1_1):zac_L1 y1 Q0_ s1_0 s1_1:=Qac _ (zac_h1 y1 s1_0 s1_1) h (by kernel_rfl)
def zac_s0 (a1:Int)(a0:(List zaa))(s0_0:Int)(s0_1:Int):St:=mkSt [(0,(.ref 620)),(1,(.t (i64 a1))),(4,(.fn 107 [])),(10,(.t (i64 s0_0))),(11,(.t (i64 s0_1)))] [(620,(.row 9 ((a0:List zaa).map zaa.enc)))] [620]
def zac_q0_0 (a1:Int)(a0:(List zaa))(y:Int):St:=mkSt [(0,(.ref 620)),(1,(.t (i64 a1))),(10,(.t (i64 y)))] [(620,(.row 9 ((a0:List zaa).map zaa.enc)))] [620]
def zac_x0_0 (a1:Int)(a0:(List zaa))(Q:Int→Prop)(y:Int):Prop:=Lf (.exit 0) (zac_q0_0 a1 a0) y (Q y)
def zac_L0 (a1:Int)(a0:(List zaa))(Q0_:Int→Prop)(s0_0:Int)(s0_1:Int):Prop:=LW Tryz.prog 220 (loopAt Tryz.f192 0) (Outs.K (.one (.exit 0) [.keep [0,1,10] [620]] (zac_q0_0 a1 a0) Q0_)) (zac_s0 a1 a0 s0_0 s0_1)
def zac_w0 (a1:Int)(a0:(List zaa))(X_:Int→Int→Prop)(Q0_:Int→Prop)(s0_0:Int)(s0_1:Int):Prop:=Br (decide (s0_0<s0_1)) (Num .i64 (s0_0+s0_1) (InL zaa.enc a0 (IntKind.wrap .i64 (Int.fdiv (IntKind.wrap .u64 (s0_0+s0_1)) 2)) (∃xa1:zaa,EltG zaa.enc a0 (IntKind.wrap .i64 (Int.fdiv (IntKind.wrap .u64 (s0_0+s0_1)) 2)) xa1 (InL zaa.enc a0 a1 (∃xa2:zaa,EltG zaa.enc a0 a1 xa2 (∃ra3:Int,(zgf_r xa1 xa2 ra3)∧(Br (decide (ra3<0)) (Num .i64 ((IntKind.wrap .i64 (Int.fdiv (IntKind.wrap .u64 (s0_0+s0_1)) 2))+1) (X_ ((IntKind.wrap .i64 (Int.fdiv (IntKind.wrap .u64 (s0_0+s0_1)) 2))+1) s0_1)) (X_ s0_0 (IntKind.wrap .i64 (Int.fdiv (IntKind.wrap .u64 (s0_0+s0_1)) 2)))))))))) (zac_x0_0 a1 a0 Q0_ s0_0)
def zac_h0 (a1:Int)(a0:(List zaa))(s0_0:Int)(s0_1:Int):HT Int := .both 33 (.op 4 2 (.nw) (.op 5 3 (.ix ((IntKind.wrap .i64 (Int.fdiv (IntKind.wrap .u64 (s0_0+s0_1)) 2)):Int).toNat) (.ex (zaa) fun xa1 => .op 5 4 (.row ((IntKind.wrap .i64 (Int.fdiv (IntKind.wrap .u64 (s0_0+s0_1)) 2)):Int).toNat (zaa.enc xa1)) (.op 5 7 (.ix (a1:Int).toNat) (.ex (zaa) fun xa2 => .op 5 8 (.row (a1:Int).toNat (zaa.enc xa2)) (.ex (Int) fun ra3 => .op 5 9 (.call [] (.t (i64 ra3)) []) (.both 50 (.op 6 1 (.nw) (.round [.keep [0,1,4,10,11] [620]])) (.round [.keep [0,1,4,10,11] [620]])))))))) (.ret [.keep [0,1,10] [620]] s0_0)
theorem zac_l0 {a1 a0 Q0_ s0_0 s0_1}(h:zac_w0 a1 a0 (zac_L0 a1 a0 Q0_) Q0_ s0_0 s0_1):zac_L0 a1 a0 Q0_ s0_0 s0_1:=Qac _ (zac_h0 a1 a0 s0_0 s0_1) h (by kernel_rfl)
def zac_R (v:(List zaa)):A:=(.tup [])
def zac_O (v:(List zaa)):List (Nat×O):=[(620,(.row 9 ((v:List zaa).map zaa.enc)))]
def zac_e (Q:(List zaa)→Prop)(v:(List zaa)):Prop:=Rt (zac_R) (zac_O) v (Q v)
def zac_r (a0:(List zaa))(a1:Int)(a2:Int)(a3:Int)(v:(List zaa)):Prop:=Con Tryz.prog 192 [(.ref 620),(.t (i64 a1)),(.t (i64 a2)),(.t (i64 a3)),(.fn 107 [])] [(620,(.row 9 ((a0:List zaa).map zaa.enc)))] (fun r_ o_=>r_=zac_R v∧o_=zac_O v)
def zac_j5s (a3:Int)(a1:Int)(a2:Int)(yj01:Int)(y_j4:(List zaa))(y_j5:Bool):St:=mkSt [(0,(.ref 620)),(3,(.t (i64 a3))),(4,(.fn 107 [])),(18,(.t (i64 (IntKind.wrap .i64 (Int.fdiv (IntKind.wrap .u64 (a1+a3)) 2))))),(24,(.t (i64 (((IntKind.wrap .i64 (Int.fdiv (IntKind.wrap .u64 (a1+a3)) 2))+a2)-yj01)))),(213,(.t (boo y_j5)))] [(620,(.row 9 ((y_j4:List zaa).map zaa.enc)))] [620]
def zac_j5 (a3:Int)(a1:Int)(a2:Int)(yj01:Int)(y_j4:(List zaa))(Q_:(List zaa)→Prop)(y_j5:Bool):Prop:=Jn (zac_j5s a3 a1 a2 yj01 y_j4 y_j5) (Br y_j5 (∃rj51:(List zaa),(zac_r y_j4 (IntKind.wrap .i64 (Int.fdiv (IntKind.wrap .u64 (a1+a3)) 2)) (((IntKind.wrap .i64 (Int.fdiv (IntKind.wrap .u64 (a1+a3)) 2))+a2)-yj01) a3 rj51)∧(zac_e Q_ rj51)) (zac_e Q_ y_j4))
def zac_j5h (a3:Int)(a1:Int)(a2:Int)(yj01:Int)(y_j4:(List zaa))(y_j5:Bool):HT (List zaa) := .both 213 (.ex ((List zaa)) fun rj51 => .op 44 5 (.call [620] (.tup []) [(620,(.row 9 ((rj51:List zaa).map zaa.enc)))]) (.fin [] [] rj51)) (.fin [] [] y_j4)
def zac_j4s (a3:Int)(a1:Int)(a2:Int)(yj01:Int)(y_j4:(List zaa)):St:=mkSt [(0,(.ref 620)),(3,(.t (i64 a3))),(4,(.fn 107 [])),(18,(.t (i64 (IntKind.wrap .i64 (Int.fdiv (IntKind.wrap .u64 (a1+a3)) 2))))),(24,(.t (i64 (((IntKind.wrap .i64 (Int.fdiv (IntKind.wrap .u64 (a1+a3)) 2))+a2)-yj01))))] [(620,(.row 9 ((y_j4:List zaa).map zaa.enc)))] [620]
def zac_j4 (a3:Int)(a1:Int)(a2:Int)(yj01:Int)(Q_:(List zaa)→Prop)(y_j4:(List zaa)):Prop:=Jn (zac_j4s a3 a1 a2 yj01 y_j4) (Br (decide ((IntKind.wrap .i64 (Int.fdiv (IntKind.wrap .u64 (a1+a3)) 2))<(((IntKind.wrap .i64 (Int.fdiv (IntKind.wrap .u64 (a1+a3)) 2))+a2)-yj01))) (zac_j5 a3 a1 a2 yj01 y_j4 Q_ (decide ((((IntKind.wrap .i64 (Int.fdiv (IntKind.wrap .u64 (a1+a3)) 2))+a2)-yj01)<a3))) (zac_j5 a3 a1 a2 yj01 y_j4 Q_ false))
def zac_j4h (a3:Int)(a1:Int)(a2:Int)(yj01:Int)(y_j4:(List zaa)):HT (List zaa) := .bo 43 3 (.jn 8191 [.keep [0,3,4,18,24,213] [620]] (Bool) (zac_j5s a3 a1 a2 yj01 y_j4) (zac_j5h a3 a1 a2 yj01 y_j4) (decide ((((IntKind.wrap .i64 (Int.fdiv (IntKind.wrap .u64 (a1+a3)) 2))+a2)-yj01)<a3))) (.jn 8191 [.keep [0,3,4,18,24,213] [620]] (Bool) (zac_j5s a3 a1 a2 yj01 y_j4) (zac_j5h a3 a1 a2 yj01 y_j4) false)
def zac_j3s (a1:Int)(a3:Int)(yj01:Int)(a2:Int)(y_j2:(List zaa))(y_j3:Bool):St:=mkSt [(0,(.ref 620)),(1,(.t (i64 a1))),(3,(.t (i64 a3))),(4,(.fn 107 [])),(18,(.t (i64 (IntKind.wrap .i64 (Int.fdiv (IntKind.wrap .u64 (a1+a3)) 2))))),(20,(.t (i64 yj01))),(24,(.t (i64 (((IntKind.wrap .i64 (Int.fdiv (IntKind.wrap .u64 (a1+a3)) 2))+a2)-yj01)))),(199,(.t (boo y_j3)))] [(620,(.row 9 ((y_j2:List zaa).map zaa.enc)))] [620]
def zac_j3 (a1:Int)(a3:Int)(yj01:Int)(a2:Int)(y_j2:(List zaa))(Q_:(List zaa)→Prop)(y_j3:Bool):Prop:=Jn (zac_j3s a1 a3 yj01 a2 y_j2 y_j3) (Br y_j3 (∃rj31:(List zaa),(zac_r y_j2 a1 yj01 (IntKind.wrap .i64 (Int.fdiv (IntKind.wrap .u64 (a1+a3)) 2)) rj31)∧(zac_j4 a3 a1 a2 yj01 Q_ rj31)) (zac_j4 a3 a1 a2 yj01 Q_ y_j2))
def zac_j3h (a1:Int)(a3:Int)(yj01:Int)(a2:Int)(y_j2:(List zaa))(y_j3:Bool):HT (List zaa) := .both 199 (.ex ((List zaa)) fun rj31 => .op 42 5 (.call [620] (.tup []) [(620,(.row 9 ((rj31:List zaa).map zaa.enc)))]) (.jn 4095 [.keep [0,3,4,18,24] [620]] ((List zaa)) (zac_j4s a3 a1 a2 yj01) (zac_j4h a3 a1 a2 yj01) rj31)) (.jn 4095 [.keep [0,3,4,18,24] [620]] ((List zaa)) (zac_j4s a3 a1 a2 yj01) (zac_j4h a3 a1 a2 yj01) y_j2)
def zac_j2s (a1:Int)(a3:Int)(yj01:Int)(a2:Int)(y_j2:(List zaa)):St:=mkSt [(0,(.ref 620)),(1,(.t (i64 a1))),(3,(.t (i64 a3))),(4,(.fn 107 [])),(18,(.t (i64 (IntKind.wrap .i64 (Int.fdiv (IntKind.wrap .u64 (a1+a3)) 2))))),(20,(.t (i64 yj01))),(24,(.t (i64 (((IntKind.wrap .i64 (Int.fdiv (IntKind.wrap .u64 (a1+a3)) 2))+a2)-yj01))))] [(620,(.row 9 ((y_j2:List zaa).map zaa.enc)))] [620]
def zac_j2 (a1:Int)(a3:Int)(yj01:Int)(a2:Int)(Q_:(List zaa)→Prop)(y_j2:(List zaa)):Prop:=Jn (zac_j2s a1 a3 yj01 a2 y_j2) (Br (decide (a1<yj01)) (zac_j3 a1 a3 yj01 a2 y_j2 Q_ (decide (yj01<(IntKind.wrap .i64 (Int.fdiv (IntKind.wrap .u64 (a1+a3)) 2))))) (zac_j3 a1 a3 yj01 a2 y_j2 Q_ false))
def zac_j2h (a1:Int)(a3:Int)(yj01:Int)(a2:Int)(y_j2:(List zaa)):HT (List zaa) := .bo 41 3 (.jn 8189 [.keep [0,1,3,4,18,20,24,199] [620]] (Bool) (zac_j3s a1 a3 yj01 a2 y_j2) (zac_j3h a1 a3 yj01 a2 y_j2) (decide (yj01<(IntKind.wrap .i64 (Int.fdiv (IntKind.wrap .u64 (a1+a3)) 2))))) (.jn 8189 [.keep [0,1,3,4,18,20,24,199] [620]] (Bool) (zac_j3s a1 a3 yj01 a2 y_j2) (zac_j3h a1 a3 yj01 a2 y_j2) false)
def zac_j1s (a1:Int)(a2:Int)(a3:Int)(yj01:Int)(a0:(List zaa))(y_j1:Bool):St:=mkSt [(0,(.ref 620)),(1,(.t (i64 a1))),(2,(.t (i64 a2))),(3,(.t (i64 a3))),(4,(.fn 107 [])),(18,(.t (i64 (IntKind.wrap .i64 (Int.fdiv (IntKind.wrap .u64 (a1+a3)) 2))))),(20,(.t (i64 yj01))),(24,(.t (i64 (((IntKind.wrap .i64 (Int.fdiv (IntKind.wrap .u64 (a1+a3)) 2))+a2)-yj01)))),(185,(.t (boo y_j1)))] [(620,(.row 9 ((a0:List zaa).map zaa.enc)))] [620]
def zac_j1 (a1:Int)(a2:Int)(a3:Int)(yj01:Int)(a0:(List zaa))(Q_:(List zaa)→Prop)(y_j1:Bool):Prop:=Jn (zac_j1s a1 a2 a3 yj01 a0 y_j1) (Br y_j1 (∃rj11:(List zaa),(zav_r a0 yj01 a2 (((IntKind.wrap .i64 (Int.fdiv (IntKind.wrap .u64 (a1+a3)) 2))+a2)-yj01) rj11)∧(zac_j2 a1 a3 yj01 a2 Q_ rj11)) (zac_j2 a1 a3 yj01 a2 Q_ a0))
def zac_j1h (a1:Int)(a2:Int)(a3:Int)(yj01:Int)(a0:(List zaa))(y_j1:Bool):HT (List zaa) := .both 185 (.ex ((List zaa)) fun rj11 => .op 40 5 (.call [620] (.tup []) [(620,(.row 9 ((rj11:List zaa).map zaa.enc)))]) (.jn 2047 [.keep [0,1,3,4,18,20,24] [620]] ((List zaa)) (zac_j2s a1 a3 yj01 a2) (zac_j2h a1 a3 yj01 a2) rj11)) (.jn 2047 [.keep [0,1,3,4,18,20,24] [620]] ((List zaa)) (zac_j2s a1 a3 yj01 a2) (zac_j2h a1 a3 yj01 a2) a0)
def zac_j0s (a1:Int)(a2:Int)(a3:Int)(a0:(List zaa))(y_j0:Int×Int):St:=mkSt [(0,(.ref 620)),(1,(.t (i64 a1))),(2,(.t (i64 a2))),(3,(.t (i64 a3))),(4,(.fn 107 [])),(18,(.t (i64 (IntKind.wrap .i64 (Int.fdiv (IntKind.wrap .u64 (a1+a3)) 2))))),(19,(.t (i64 ((IntKind.wrap .i64 (Int.fdiv (IntKind.wrap .u64 (a1+a3)) 2))+a2)))),(20,(.t (i64 y_j0.1))),(21,(.t (i64 y_j0.2)))] [(620,(.row 9 ((a0:List zaa).map zaa.enc)))] [620]
def zac_j0 (a1:Int)(a2:Int)(a3:Int)(a0:(List zaa))(Q_:(List zaa)→Prop)(y_j0:Int×Int):Prop:=Jn (zac_j0s a1 a2 a3 a0 y_j0) (Num .i64 (((IntKind.wrap .i64 (Int.fdiv (IntKind.wrap .u64 (a1+a3)) 2))+a2)-1) (zac_L4 a1 a2 a3 a0 (fun(yj01:Int)=>Num .i64 (((IntKind.wrap .i64 (Int.fdiv (IntKind.wrap .u64 (a1+a3)) 2))+a2)-yj01) (Br (decide (yj01<a2)) (zac_j1 a1 a2 a3 yj01 a0 Q_ (decide (a2<(((IntKind.wrap .i64 (Int.fdiv (IntKind.wrap .u64 (a1+a3)) 2))+a2)-yj01)))) (zac_j1 a1 a2 a3 yj01 a0 Q_ false))) y_j0.1 y_j0.2))
def zac_j0h (a1:Int)(a2:Int)(a3:Int)(a0:(List zaa))(y_j0:Int×Int):HT (List zaa) := .op 32 1 (.nw) (.loop [.keep [0,1,2,3,4,18,19,20,21,22] [620]] (.out (Int) (.exit 8) [.keep [0,1,2,3,4,18,19,20] [620]] (zac_q4_0 a1 a2 a3 a0) (fun yj01 => .op 38 2 (.nw) (.bo 39 3 (.jn 4093 [.keep [0,1,2,3,4,18,20,24,185] [620]] (Bool) (zac_j1s a1 a2 a3 yj01 a0) (zac_j1h a1 a2 a3 yj01 a0) (decide (a2<(((IntKind.wrap .i64 (Int.fdiv (IntKind.wrap .u64 (a1+a3)) 2))+a2)-yj01)))) (.jn 4093 [.keep [0,1,2,3,4,18,20,24,185] [620]] (Bool) (zac_j1s a1 a2 a3 yj01 a0) (zac_j1h a1 a2 a3 yj01 a0) false))) (.nil)))
def zac_w (a0:(List zaa))(a1:Int)(a2:Int)(a3:Int)(Q_:(List zaa)→Prop):Prop:=Num .i64 (a2-a1) (Br ((a2-a1)==1) (zac_L0 a1 a0 (fun(y1:Int)=>zac_L1 y1 (fun(y2:(List zaa))=>zac_e Q_ y2) a1 a0) a2 a3) (Num .i64 (a3-a2) (Br ((a3-a2)==1) (zac_L2 a2 a0 (fun(y1:Int)=>zac_L3 y1 (fun(y2:(List zaa))=>zac_e Q_ y2) a2 a0) a1 a2) (Num .i64 (a1+a3) (Num .i64 ((IntKind.wrap .i64 (Int.fdiv (IntKind.wrap .u64 (a1+a3)) 2))+a2) (Br (decide (a2>(IntKind.wrap .i64 (Int.fdiv (IntKind.wrap .u64 (a1+a3)) 2)))) (Num .i64 (((IntKind.wrap .i64 (Int.fdiv (IntKind.wrap .u64 (a1+a3)) 2))+a2)-a3) (zac_j0 a1 a2 a3 a0 Q_ ((((IntKind.wrap .i64 (Int.fdiv (IntKind.wrap .u64 (a1+a3)) 2))+a2)-a3),(IntKind.wrap .i64 (Int.fdiv (IntKind.wrap .u64 (a1+a3)) 2))))) (zac_j0 a1 a2 a3 a0 Q_ (a1,a2))))))))
def zac_h (a0:(List zaa))(a1:Int)(a2:Int)(a3:Int):HT (List zaa) := .op 0 2 (.nw) (.both 28 (.loop [.keep [0,1,4,10,11] [620]] (.out (Int) (.exit 0) [.keep [0,1,10] [620]] (zac_q0_0 a1 a0) (fun y1 => .loop [.keep [0,10,13] [620]] (.out ((List zaa)) (.exit 2) [.keep [] [620]] (zac_q1_0 y1) (fun y2 => .fin [] [] y2) (.nil))) (.nil))) (.op 12 2 (.nw) (.both 80 (.loop [.keep [0,2,4,14,15] [620]] (.out (Int) (.exit 4) [.keep [0,2,14] [620]] (zac_q2_0 a2 a0) (fun y1 => .loop [.keep [0,14,17] [620]] (.out ((List zaa)) (.exit 6) [.keep [] [620]] (zac_q3_0 y1) (fun y2 => .fin [] [] y2) (.nil))) (.nil))) (.op 24 2 (.nw) (.op 25 2 (.nw) (.both 140 (.op 28 2 (.nw) (.jn 127 [.keep [0,1,2,3,4,18,19,20,21] [620]] (Int×Int) (zac_j0s a1 a2 a3 a0) (zac_j0h a1 a2 a3 a0) ((((IntKind.wrap .i64 (Int.fdiv (IntKind.wrap .u64 (a1+a3)) 2))+a2)-a3),(IntKind.wrap .i64 (Int.fdiv (IntKind.wrap .u64 (a1+a3)) 2))))) (.jn 127 [.keep [0,1,2,3,4,18,19,20,21] [620]] (Int×Int) (zac_j0s a1 a2 a3 a0) (zac_j0h a1 a2 a3 a0) (a1,a2))))))))
theorem zac_of {a0 a1 a2 a3 v}(h:zac_w a0 a1 a2 a3 (fun v_=>v_=v)):zac_r a0 a1 a2 a3 v:=Qaa Tryz.call192 Tryz.func192 [620] (zac_h a0 a1 a2 a3) h
def zae_s2 (a1:Int)(s1_0:Int)(s2_0:Int)(s2_1:Int)(s2_2:(List zaa)):St:=mkSt [(0,(.ref 620)),(1,(.t (i64 a1))),(2,(.fn 107 [])),(6,(.t (i64 s1_0))),(7,(.t (i64 s2_0))),(8,(.t (i64 s2_1)))] [(620,(.row 9 ((s2_2:List zaa).map zaa.enc)))] [620]
def zae_q2_0 (a1:Int)(s1_0:Int)(y:Int×(List zaa)):St:=mkSt [(0,(.ref 620)),(1,(.t (i64 a1))),(2,(.fn 107 [])),(6,(.t (i64 s1_0))),(7,(.t (i64 y.1)))] [(620,(.row 9 ((y.2:List zaa).map zaa.enc)))] [620]
def zae_x2_0 (a1:Int)(s1_0:Int)(Q:(Int×(List zaa))→Prop)(y:Int×(List zaa)):Prop:=Lf (.exit 4) (zae_q2_0 a1 s1_0) y (Q y)
def zae_L2 (a1:Int)(s1_0:Int)(Q0_:(Int×(List zaa))→Prop)(s2_0:Int)(s2_1:Int)(s2_2:(List zaa)):Prop:=LW Tryz.prog 63 (loopAt Tryz.f156 2) (Outs.K (.one (.exit 4) [.keep [0,1,2,6,7] [620]] (zae_q2_0 a1 s1_0) Q0_)) (zae_s2 a1 s1_0 s2_0 s2_1 s2_2)
def zae_w2 (a1:Int)(s1_0:Int)(X_:Int→Int→(List zaa)→Prop)(Q0_:(Int×(List zaa))→Prop)(s2_0:Int)(s2_1:Int)(s2_2:(List zaa)):Prop:=Br (decide (s2_1≤a1)) (Num .i64 (s2_0+s1_0) (∃rc1:(List zaa),(zac_r s2_2 s2_0 (s2_0+s1_0) s2_1 rc1)∧(Num .i64 (2*s1_0) (Num .i64 (s2_1+(2*s1_0)) (X_ s2_1 (s2_1+(2*s1_0)) rc1))))) (zae_x2_0 a1 s1_0 Q0_ (s2_0,s2_2))
def zae_h2 (a1:Int)(s1_0:Int)(s2_0:Int)(s2_1:Int)(s2_2:(List zaa)):HT (Int×(List zaa)) := .both 35 (.op 10 4 (.nw) (.ex ((List zaa)) fun rc1 => .op 10 7 (.call [620] (.tup []) [(620,(.row 9 ((rc1:List zaa).map zaa.enc)))]) (.op 12 2 (.nw) (.op 12 3 (.nw) (.round [.keep [0,1,2,6,7,8] [620]]))))) (.ret [.keep [0,1,2,6,7] [620]] (s2_0,s2_2))
theorem zae_l2 {a1 s1_0 Q0_ s2_0 s2_1 s2_2}(h:zae_w2 a1 s1_0 (zae_L2 a1 s1_0 Q0_) Q0_ s2_0 s2_1 s2_2):zae_L2 a1 s1_0 Q0_ s2_0 s2_1 s2_2:=Qac _ (zae_h2 a1 s1_0 s2_0 s2_1 s2_2) h (by kernel_rfl)
def zae_s1 (a1:Int)(s1_0:Int)(s1_1:(List zaa)):St:=mkSt [(0,(.ref 620)),(1,(.t (i64 a1))),(2,(.fn 107 [])),(6,(.t (i64 s1_0)))] [(620,(.row 9 ((s1_1:List zaa).map zaa.enc)))] [620]
def zae_q1_0 (a1:Int)(y:(List zaa)):St:=mkSt [] [(620,(.row 9 ((y:List zaa).map zaa.enc)))] [620]
def zae_x1_0 (a1:Int)(Q:(List zaa)→Prop)(y:(List zaa)):Prop:=Lf (.exit 2) (zae_q1_0 a1) y (Q y)
def Qf3 (a1:Int)(Q0_:(List zaa)→Prop)(s1_0:Int)(s1_1:(List zaa)):Prop:=LW Tryz.prog 63 (loopAt Tryz.f156 1) (Outs.K (.one (.exit 2) [.keep [] [620]] (zae_q1_0 a1) Q0_)) (zae_s1 a1 s1_0 s1_1)
def zae_w1 (a1:Int)(X_:Int→(List zaa)→Prop)(Q0_:(List zaa)→Prop)(s1_0:Int)(s1_1:(List zaa)):Prop:=Br (decide (s1_0<a1)) (Num .i64 (2*s1_0) (zae_L2 a1 s1_0 (fun(yb1:Int×(List zaa))=>Num .i64 (yb1.1+s1_0) (Br (decide ((yb1.1+s1_0)<a1)) (∃rb2:(List zaa),(zac_r yb1.2 yb1.1 (yb1.1+s1_0) a1 rb2)∧(Num .i64 (s1_0*2) (X_ (s1_0*2) rb2))) (Num .i64 (s1_0*2) (X_ (s1_0*2) yb1.2)))) 0 (2*s1_0) s1_1)) (zae_x1_0 a1 Q0_ s1_1)
def zae_h1 (a1:Int)(s1_0:Int)(s1_1:(List zaa)):HT (List zaa) := .both 30 (.op 8 1 (.nw) (.loop [.keep [0,1,2,6,7,8] [620]] (.out (Int×(List zaa)) (.exit 4) [.keep [0,1,2,6,7] [620]] (zae_q2_0 a1 s1_0) (fun yb1 => .op 13 2 (.nw) (.both 54 (.ex ((List zaa)) fun rb2 => .op 15 5 (.call [620] (.tup []) [(620,(.row 9 ((rb2:List zaa).map zaa.enc)))]) (.op 16 1 (.nw) (.round [.keep [0,1,2,6] [620]]))) (.op 16 1 (.nw) (.round [.keep [0,1,2,6] [620]])))) (.nil)))) (.ret [.keep [] [620]] s1_1)
theorem zae_l1 {a1 Q0_ s1_0 s1_1}(h:zae_w1 a1 (Qf3 a1 Q0_) Q0_ s1_0 s1_1):Qf3 a1 Q0_ s1_0 s1_1:=Qac _ (zae_h1 a1 s1_0 s1_1) h (by kernel_rfl)
def zae_s0 (a1:Int)(s0_0:Int)(s0_1:Int)(s0_2:(List zaa)):St:=mkSt [(0,(.ref 620)),(1,(.t (i64 a1))),(2,(.fn 107 [])),(6,(.t (i64 20))),(7,(.t (i64 s0_0))),(8,(.t (i64 s0_1)))] [(620,(.row 9 ((s0_2:List zaa).map zaa.enc)))] [620]
def zae_q0_0 (a1:Int)(y:Int×(List zaa)):St:=mkSt [(0,(.ref 620)),(1,(.t (i64 a1))),(2,(.fn 107 [])),(6,(.t (i64 20))),(7,(.t (i64 y.1)))] [(620,(.row 9 ((y.2:List zaa).map zaa.enc)))] [620]
def zae_x0_0 (a1:Int)(Q:(Int×(List zaa))→Prop)(y:Int×(List zaa)):Prop:=Lf (.exit 0) (zae_q0_0 a1) y (Q y)
def zae_L0 (a1:Int)(Q0_:(Int×(List zaa))→Prop)(s0_0:Int)(s0_1:Int)(s0_2:(List zaa)):Prop:=LW Tryz.prog 63 (loopAt Tryz.f156 0) (Outs.K (.one (.exit 0) [.keep [0,1,2,6,7] [620]] (zae_q0_0 a1) Q0_)) (zae_s0 a1 s0_0 s0_1 s0_2)
def zae_w0 (a1:Int)(X_:Int→Int→(List zaa)→Prop)(Q0_:(Int×(List zaa))→Prop)(s0_0:Int)(s0_1:Int)(s0_2:(List zaa)):Prop:=Br (decide (s0_1≤a1)) (∃ra1:(List zaa),(zah_r s0_2 s0_0 s0_1 ra1)∧(Num .i64 (s0_1+20) (X_ s0_1 (s0_1+20) ra1))) (zae_x0_0 a1 Q0_ (s0_0,s0_2))
def zae_h0 (a1:Int)(s0_0:Int)(s0_1:Int)(s0_2:(List zaa)):HT (Int×(List zaa)) := .both 13 (.ex ((List zaa)) fun ra1 => .op 3 4 (.call [620] (.tup []) [(620,(.row 9 ((ra1:List zaa).map zaa.enc)))]) (.op 5 2 (.nw) (.round [.keep [0,1,2,6,7,8] [620]]))) (.ret [.keep [0,1,2,6,7] [620]] (s0_0,s0_2))
theorem zae_l0 {a1 Q0_ s0_0 s0_1 s0_2}(h:zae_w0 a1 (zae_L0 a1 Q0_) Q0_ s0_0 s0_1 s0_2):zae_L0 a1 Q0_ s0_0 s0_1 s0_2:=Qac _ (zae_h0 a1 s0_0 s0_1 s0_2) h (by kernel_rfl)
def zae_R (v:(List zaa)):A:=(.tup [])
def zae_O (v:(List zaa)):List (Nat×O):=[(620,(.row 9 ((v:List zaa).map zaa.enc)))]
def zae_e (Q:(List zaa)→Prop)(v:(List zaa)):Prop:=Rt (zae_R) (zae_O) v (Q v)
def zae_r (a0:(List zaa))(a1:Int)(v:(List zaa)):Prop:=Con Tryz.prog 156 [(.ref 620),(.t (i64 a1)),(.fn 107 [])] [(620,(.row 9 ((a0:List zaa).map zaa.enc)))] (fun r_ o_=>r_=zae_R v∧o_=zae_O v)
def zae_w (a0:(List zaa))(a1:Int)(Q_:(List zaa)→Prop):Prop:=zae_L0 a1 (fun(y1:Int×(List zaa))=>∃r2:(List zaa),(zah_r y1.2 y1.1 a1 r2)∧(Qf3 a1 (fun(y3:(List zaa))=>zae_e Q_ y3) 20 r2)) 0 20 a0
def zae_h (a0:(List zaa))(a1:Int):HT (List zaa) := .loop [.keep [0,1,2,6,7,8] [620]] (.out (Int×(List zaa)) (.exit 0) [.keep [0,1,2,6,7] [620]] (zae_q0_0 a1) (fun y1 => .ex ((List zaa)) fun r2 => .op 6 4 (.call [620] (.tup []) [(620,(.row 9 ((r2:List zaa).map zaa.enc)))]) (.loop [.keep [0,1,2,6] [620]] (.out ((List zaa)) (.exit 2) [.keep [] [620]] (zae_q1_0 a1) (fun y3 => .fin [] [] y3) (.nil)))) (.nil))
theorem zae_of {a0 a1 v}(h:zae_w a0 a1 (fun v_=>v_=v)):zae_r a0 a1 v:=Qaa Tryz.call156 Tryz.func156 [620] (zae_h a0 a1) h
def zbp_R (v:(List zaa)):A:=(.tup [])
def zbp_O (v:(List zaa)):List (Nat×O):=[(620,(.row 9 ((v:List zaa).map zaa.enc)))]
def zbp_e (Q:(List zaa)→Prop)(v:(List zaa)):Prop:=Rt (zbp_R) (zbp_O) v (Q v)
def zbp_r (a0:(List zaa))(v:(List zaa)):Prop:=Con Tryz.prog 106 [(.ref 620),(.fn 107 [])] [(620,(.row 9 ((a0:List zaa).map zaa.enc)))] (fun r_ o_=>r_=zbp_R v∧o_=zbp_O v)
def zbp_w (a0:(List zaa))(Q_:(List zaa)→Prop):Prop:=∃r1:(List zaa),(zae_r a0 (lenM zaa.enc a0) r1)∧(zbp_e Q_ r1)
def zbp_h (a0:(List zaa)):HT (List zaa) := .ex ((List zaa)) fun r1 => .op 0 4 (.call [620] (.tup []) [(620,(.row 9 ((r1:List zaa).map zaa.enc)))]) (.fin [] [] r1)
theorem zbp_of {a0 v}(h:zbp_w a0 (fun v_=>v_=v)):zbp_r a0 v:=Qaa Tryz.call106 Tryz.func106 [620] (zbp_h a0) h
def zgk_R (v:(List zaa)):A:=(.t (.sl 9 ((v:List zaa).map zaa.enc)))
def zgk_O (v:(List zaa)):List (Nat×O):=[]
def zgk_e (Q:(List zaa)→Prop)(v:(List zaa)):Prop:=Rt (zgk_R) (zgk_O) v (Q v)
def zgk_r (a0:(List zaa))(v:(List zaa)):Prop:=Con Tryz.prog 59 [(.t (.sl 9 ((a0:List zaa).map zaa.enc)))] [] (fun r_ o_=>r_=zgk_R v∧o_=zgk_O v)
def zgk_w (a0:(List zaa))(Q_:(List zaa)→Prop):Prop:=∃r1:(List zaa),(CloneR Tryz.prog 105 9 zaa.enc a0 r1)∧(∃r2:(List zaa),(zbp_r r1 r2)∧(zgk_e Q_ r2))
def zgk_h (a0:(List zaa)):HT (List zaa) := .ex ((List zaa)) fun r1 => .op 1 1 (.call [] (.ref 1600) [(1600,(.row 9 ((r1:List zaa).map zaa.enc)))]) (.reg 2 [.ren 1600 620] [] (.ex ((List zaa)) fun r2 => .op 2 1 (.call [620] (.tup []) [(620,(.row 9 ((r2:List zaa).map zaa.enc)))]) (.fin [] [] r2)))
theorem zgk_of {a0 v}(h:zgk_w a0 (fun v_=>v_=v)):zgk_r a0 v:=Qaa Tryz.call59 Tryz.func59 [] (zgk_h a0) h
def zga_R (v:Int):A:=(.t (i64 v))
def zga_O (v:Int):List (Nat×O):=[]
def zga_e (Q:Int→Prop)(v:Int):Prop:=Rt (zga_R) (zga_O) v (Q v)
def zga_r (a0:zab)(a1:ByteArray)(v:Int):Prop:=Con Tryz.prog 124 [(.agg [(.t (str a0.ISIN)),(.t (i64 a0.Qty))]),(.t (str a1))] [] (fun r_ o_=>r_=zga_R v∧o_=zga_O v)
def zga_w (a0:zab)(a1:ByteArray)(Q_:Int→Prop):Prop:=∃r1:Int,(zdm_r a0.ISIN a1 r1)∧(zga_e Q_ r1)
def zga_h (a0:zab)(a1:ByteArray):HT Int := .ex (Int) fun r1 => .op 1 3 (.call [] (.t (i64 r1)) []) (.fin [] [] r1)
theorem zga_of {a0 a1 v}(h:zga_w a0 a1 (fun v_=>v_=v)):zga_r a0 a1 v:=Qaa Tryz.call124 Tryz.func124 [] (zga_h a0 a1) h
def zan_s0 (a0:(List zab))(a1:ByteArray)(s0_0:Int)(s0_1:Int):St:=mkSt [(0,(.t (.sl 2 ((a0:List zab).map zab.enc)))),(1,(.t (str a1))),(2,(.fn 124 [])),(8,(.t (i64 (lenM zab.enc a0)))),(9,(.t (i64 s0_0))),(10,(.t (i64 s0_1)))] [] []
def zan_q0_0 (a0:(List zab))(a1:ByteArray)(y:Int):St:=mkSt [(0,(.t (.sl 2 ((a0:List zab).map zab.enc)))),(1,(.t (str a1))),(2,(.fn 124 [])),(8,(.t (i64 (lenM zab.enc a0)))),(9,(.t (i64 y)))] [] []
def zan_x0_0 (a0:(List zab))(a1:ByteArray)(Q:Int→Prop)(y:Int):Prop:=Lf (.exit 0) (zan_q0_0 a0 a1) y (Q y)
def zan_L0 (a0:(List zab))(a1:ByteArray)(Q0_:Int→Prop)(s0_0:Int)(s0_1:Int):Prop:=LW Tryz.prog 49 (loopAt Tryz.f123 0) (Outs.K (.one (.exit 0) [.keep [0,1,2,8,9] []] (zan_q0_0 a0 a1) Q0_)) (zan_s0 a0 a1 s0_0 s0_1)
def zan_w0 (a0:(List zab))(a1:ByteArray)(X_:Int→Int→Prop)(Q0_:Int→Prop)(s0_0:Int)(s0_1:Int):Prop:=Br (decide (s0_0<s0_1)) (Num .i64 (s0_0+s0_1) (∃xa1:zab,Got zab.enc a0 (IntKind.wrap .i64 (Int.fdiv (IntKind.wrap .u64 (s0_0+s0_1)) 2)) xa1 (∃ra2:Int,(zga_r xa1 a1 ra2)∧(Br (decide (ra2<0)) (Num .i64 ((IntKind.wrap .i64 (Int.fdiv (IntKind.wrap .u64 (s0_0+s0_1)) 2))+1) (X_ ((IntKind.wrap .i64 (Int.fdiv (IntKind.wrap .u64 (s0_0+s0_1)) 2))+1) s0_1)) (X_ s0_0 (IntKind.wrap .i64 (Int.fdiv (IntKind.wrap .u64 (s0_0+s0_1)) 2))))))) (zan_x0_0 a0 a1 Q0_ s0_0)
def zan_h0 (a0:(List zab))(a1:ByteArray)(s0_0:Int)(s0_1:Int):HT Int := .both 17 (.op 4 2 (.nw) (.ex (zab) fun xa1 => .op 5 3 (.row ((IntKind.wrap .i64 (Int.fdiv (IntKind.wrap .u64 (s0_0+s0_1)) 2)):Int).toNat (zab.enc xa1)) (.ex (Int) fun ra2 => .op 5 6 (.call [] (.t (i64 ra2)) []) (.both 31 (.op 6 1 (.nw) (.round [.keep [0,1,2,8,9,10] []])) (.round [.keep [0,1,2,8,9,10] []]))))) (.ret [.keep [0,1,2,8,9] []] s0_0)
theorem zan_l0 {a0 a1 Q0_ s0_0 s0_1}(h:zan_w0 a0 a1 (zan_L0 a0 a1 Q0_) Q0_ s0_0 s0_1):zan_L0 a0 a1 Q0_ s0_0 s0_1:=Qac _ (zan_h0 a0 a1 s0_0 s0_1) h (by kernel_rfl)
def zan_R (v:Int×Bool):A:=(.tup [(.t (i64 v.1)),(.t (boo v.2))])
def zan_O (v:Int×Bool):List (Nat×O):=[]
def zan_e (Q:(Int×Bool)→Prop)(v:Int×Bool):Prop:=Rt (zan_R) (zan_O) v (Q v)
def zan_r (a0:(List zab))(a1:ByteArray)(v:Int×Bool):Prop:=Con Tryz.prog 123 [(.t (.sl 2 ((a0:List zab).map zab.enc))),(.t (str a1)),(.fn 124 [])] [] (fun r_ o_=>r_=zan_R v∧o_=zan_O v)
def zan_w (a0:(List zab))(a1:ByteArray)(Q_:(Int×Bool)→Prop):Prop:=zan_L0 a0 a1 (fun(y1:Int)=>Br (decide (y1<(lenM zab.enc a0))) (∃x2:zab,Got zab.enc a0 y1 x2 (∃r3:Int,(zga_r x2 a1 r3)∧(zan_e Q_ (y1,(r3==0))))) (zan_e Q_ (y1,false))) 0 (lenM zab.enc a0)
def zan_h (a0:(List zab))(a1:ByteArray):HT (Int×Bool) := .loop [.keep [0,1,2,8,9,10] []] (.out (Int) (.exit 0) [.keep [0,1,2,8,9] []] (zan_q0_0 a0 a1) (fun y1 => .bo 8 4 (.ex (zab) fun x2 => .op 8 8 (.row (y1:Int).toNat (zab.enc x2)) (.ex (Int) fun r3 => .op 8 11 (.call [] (.t (i64 r3)) []) (.fin [] [] (y1,(r3==0))))) (.fin [] [] (y1,false))) (.nil))
theorem zan_of {a0 a1 v}(h:zan_w a0 a1 (fun v_=>v_=v)):zan_r a0 a1 v:=Qaa Tryz.call123 Tryz.func123 [] (zan_h a0 a1) h
def zgj_R (v:Int×Bool):A:=(.tup [(.t (i64 v.1)),(.t (boo v.2))])
def zgj_O (v:Int×Bool):List (Nat×O):=[]
def zgj_e (Q:(Int×Bool)→Prop)(v:Int×Bool):Prop:=Rt (zgj_R) (zgj_O) v (Q v)
def zgj_r (a0:(List zab))(a1:ByteArray)(v:Int×Bool):Prop:=Con Tryz.prog 71 [(.t (.sl 2 ((a0:List zab).map zab.enc))),(.t (str a1))] [] (fun r_ o_=>r_=zgj_R v∧o_=zgj_O v)
def zgj_w (a0:(List zab))(a1:ByteArray)(Q_:(Int×Bool)→Prop):Prop:=∃r1:Int×Bool,(zan_r a0 a1 r1)∧(zgj_e Q_ (r1.1,r1.2))
def zgj_h (a0:(List zab))(a1:ByteArray):HT (Int×Bool) := .ex (Int×Bool) fun r1 => .op 1 2 (.call [] (.tup [(.t (i64 r1.1)),(.t (boo r1.2))]) []) (.fin [] [] (r1.1,r1.2))
theorem zgj_of {a0 a1 v}(h:zgj_w a0 a1 (fun v_=>v_=v)):zgj_r a0 a1 v:=Qaa Tryz.call71 Tryz.func71 [] (zgj_h a0 a1) h
def zgo_R (v:(List zab)×Int):A:=(.tup [(.ref 1600),(.t (i64 v.2))])
def zgo_O (v:(List zab)×Int):List (Nat×O):=[(1600,(.row 2 ((v.1:List zab).map zab.enc)))]
def zgo_e (Q:((List zab)×Int)→Prop)(v:(List zab)×Int):Prop:=Rt (zgo_R) (zgo_O) v (Q v)
def zgo_r (a0:(List zab))(a1:zab)(v:(List zab)×Int):Prop:=Con Tryz.prog 87 [(.ref 620),(.agg [(.t (str a1.ISIN)),(.t (i64 a1.Qty))])] [(620,(.row 2 ((a0:List zab).map zab.enc)))] (fun r_ o_=>r_=zgo_R v∧o_=zgo_O v)
def zgo_w (a0:(List zab))(a1:zab)(Q_:((List zab)×Int)→Prop):Prop:=∃r1:Int×Bool,(zgj_r a0 a1.ISIN r1)∧(Br (!r1.2) (Br (decide ((lenM zab.enc a0)≥64)) (zgo_e Q_ ([],2)) (∃r2:(List zab),(InsR Tryz.prog 141 2 zab.enc a0 r1.1 [a1] r2)∧(zgo_e Q_ (r2,0)))) (InL zab.enc a0 r1.1 (∃x2:zab,EltG zab.enc a0 r1.1 x2 (Num .i64 (1125899906842624-x2.Qty) (Br (decide (a1.Qty>(1125899906842624-x2.Qty))) (zgo_e Q_ ([],9)) (InL zab.enc a0 r1.1 (EltG zab.enc a0 r1.1 x2 (Num .i64 (x2.Qty+a1.Qty) (InL zab.enc a0 r1.1 (EltS zab.enc a0 r1.1 x2 (⟨x2.ISIN,(x2.Qty+a1.Qty)⟩:zab) (zgo_e Q_ ((a0.set (r1.1:Int).toNat (⟨x2.ISIN,(x2.Qty+a1.Qty)⟩:zab)),0))))))))))))
def zgo_h (a0:(List zab))(a1:zab):HT ((List zab)×Int) := .ex (Int×Bool) fun r1 => .op 1 3 (.ro (.tup [(.t (i64 r1.1)),(.t (boo r1.2))])) (.both 16 (.both 19 (.fin [.own 4 1600 2] [] ([],2)) (.op 5 3 (.id 622) (.ex ((List zab)) fun r2 => .op 5 4 (.call [620,622] (.ref 1600) [(1600,(.row 2 ((r2:List zab).map zab.enc)))]) (.fin [] [] (r2,0))))) (.op 6 4 (.ix (r1.1:Int).toNat) (.ex (zab) fun x2 => .op 6 6 (.row (r1.1:Int).toNat (zab.enc x2)) (.op 6 7 (.nw) (.both 33 (.fin [.own 4 1600 2] [] ([],9)) (.op 8 2 (.ix (r1.1:Int).toNat) (.op 8 4 (.row (r1.1:Int).toNat (zab.enc x2)) (.op 8 7 (.nw) (.op 8 8 (.ix (r1.1:Int).toNat) (.op 8 10 (.row (r1.1:Int).toNat (zab.enc x2)) (.rw 620 (((a0.set (r1.1:Int).toNat (⟨x2.ISIN,(x2.Qty+a1.Qty)⟩:zab)):List zab).map zab.enc) (.fin [.ren 620 1600] [] ((a0.set (r1.1:Int).toNat (⟨x2.ISIN,(x2.Qty+a1.Qty)⟩:zab)),0)))))))))))))
theorem zgo_of {a0 a1 v}(h:zgo_w a0 a1 (fun v_=>v_=v)):zgo_r a0 a1 v:=Qaa Tryz.call87 Tryz.func87 [1600] (zgo_h a0 a1) h
def zde_s0 (a0:(List zab))(s0_0:Int)(s0_1:(List zab)):St:=mkSt [(4,(.ref 1600)),(8,(.t (.sl 2 ((a0:List zab).map zab.enc)))),(9,(.t (i64 (lenM zab.enc a0)))),(10,(.t (i64 s0_0)))] [(1600,(.row 2 ((s0_1:List zab).map zab.enc)))] []
def zde_q0_0 (a0:(List zab))(y:Int):St:=mkSt [(2,(.t (.v (.slice none 0 0)))),(3,(.t (i64 y)))] [] []
def zde_x0_0 (a0:(List zab))(Q:Int→Prop)(y:Int):Prop:=Lf .ret (zde_q0_0 a0) y (Q y)
def zde_q0_1 (a0:(List zab))(y:(List zab)):St:=mkSt [(4,(.ref 1600))] [(1600,(.row 2 ((y:List zab).map zab.enc)))] []
def zde_x0_1 (a0:(List zab))(Q:(List zab)→Prop)(y:(List zab)):Prop:=Lf (.exit 0) (zde_q0_1 a0) y (Q y)
def zde_L0 (a0:(List zab))(Q0_:Int→Prop)(Q1_:(List zab)→Prop)(s0_0:Int)(s0_1:(List zab)):Prop:=LW Tryz.prog 33 (loopAt Tryz.f41 0) (Outs.K (.cons .ret [.keep [2,3] []] (zde_q0_0 a0) Q0_ (.one (.exit 0) [.keep [4] [1600]] (zde_q0_1 a0) Q1_))) (zde_s0 a0 s0_0 s0_1)
def zde_w0 (a0:(List zab))(X_:Int→(List zab)→Prop)(Q0_:Int→Prop)(Q1_:(List zab)→Prop)(s0_0:Int)(s0_1:(List zab)):Prop:=Br (decide (s0_0<(lenM zab.enc a0))) (∃xa1:zab,Got zab.enc a0 s0_0 xa1 (Br (decide (xa1.Qty<1)) (zde_x0_0 a0 Q0_ 1) (Br (decide (xa1.Qty>1125899906842624)) (zde_x0_0 a0 Q0_ 1) (∃ra2:(List zab)×Int,(zgo_r s0_1 xa1 ra2)∧(Br (ra2.2 != 0) (zde_x0_0 a0 Q0_ ra2.2) (Num .i64 (s0_0+1) (X_ (s0_0+1) ra2.1))))))) (zde_x0_1 a0 Q1_ s0_1)
def zde_h0 (a0:(List zab))(s0_0:Int)(s0_1:(List zab)):HT (Int ⊕ (List zab)) := .both 11 (.ex (zab) fun xa1 => .op 5 0 (.row (s0_0:Int).toNat (zab.enc xa1)) (.bo 6 3 (.ret [.keep [2,3] []] (.inl 1)) (.both 21 (.ret [.keep [2,3] []] (.inl 1)) (.reg 8 [.ren 1600 620] [] (.ex ((List zab)×Int) fun ra2 => .op 8 2 (.call [620] (.tup [(.ref 1600),(.t (i64 ra2.2))]) [(1600,(.row 2 ((ra2.1:List zab).map zab.enc)))]) (.both 29 (.ret [.keep [2,3] []] (.inl ra2.2)) (.op 11 0 (.nw) (.round [.keep [4,8,9,10] [1600]])))))))) (.ret [.keep [4] [1600]] (.inr s0_1))
theorem zde_l0 {a0 Q0_ Q1_ s0_0 s0_1}(h:zde_w0 a0 (zde_L0 a0 Q0_ Q1_) Q0_ Q1_ s0_0 s0_1):zde_L0 a0 Q0_ Q1_ s0_0 s0_1:=Qac _ (zde_h0 a0 s0_0 s0_1) h (by kernel_rfl)
def zde_R (v:(List zab)×Int):A:=(.tup [(.t (.sl 2 ((v.1:List zab).map zab.enc))),(.t (i64 v.2))])
def zde_O (v:(List zab)×Int):List (Nat×O):=[]
def zde_e (Q:((List zab)×Int)→Prop)(v:(List zab)×Int):Prop:=Rt (zde_R) (zde_O) v (Q v)
def zde_r (a0:(List zab))(v:(List zab)×Int):Prop:=Con Tryz.prog 41 [(.t (.sl 2 ((a0:List zab).map zab.enc)))] [] (fun r_ o_=>r_=zde_R v∧o_=zde_O v)
def zde_w (a0:(List zab))(Q_:((List zab)×Int)→Prop):Prop:=zde_L0 a0 (fun(y1:Int)=>zde_e Q_ ([],y1)) (fun(y1:(List zab))=>zde_e Q_ (y1,0)) 0 []
def zde_h (a0:(List zab)):HT ((List zab)×Int) := .loop [.own 4 1600 2,.keep [4,8,9,10] [1600]] (.out (Int) .ret [.keep [2,3] []] (zde_q0_0 a0) (fun y1 => .fin [] [([0],2)] ([],y1)) (.out ((List zab)) (.exit 0) [.keep [4] [1600]] (zde_q0_1 a0) (fun y1 => .fin [] [] (y1,0)) (.nil)))
theorem zde_of {a0 v}(h:zde_w a0 (fun v_=>v_=v)):zde_r a0 v:=Qaa Tryz.call41 Tryz.func41 [] (zde_h a0) h
def zfk_s0 (a0:(List zaa))(s0_0:Int)(s0_1:(List zab)):St:=mkSt [(4,(.ref 17)),(7,(.t (.sl 9 ((a0:List zaa).map zaa.enc)))),(8,(.t (i64 (lenM zaa.enc a0)))),(9,(.t (i64 s0_0)))] [(17,(.row 2 ((s0_1:List zab).map zab.enc)))] []
def zfk_q0_0 (a0:(List zaa))(y:(List zab)):St:=mkSt [(4,(.ref 17))] [(17,(.row 2 ((y:List zab).map zab.enc)))] []
def zfk_x0_0 (a0:(List zaa))(Q:(List zab)→Prop)(y:(List zab)):Prop:=Lf (.exit 0) (zfk_q0_0 a0) y (Q y)
def zfk_L0 (a0:(List zaa))(Q0_:(List zab)→Prop)(s0_0:Int)(s0_1:(List zab)):Prop:=LW Tryz.prog 23 (loopAt Tryz.f115 0) (Outs.K (.one (.exit 0) [.keep [4] [17]] (zfk_q0_0 a0) Q0_)) (zfk_s0 a0 s0_0 s0_1)
def zfk_w0 (a0:(List zaa))(X_:Int→(List zab)→Prop)(Q0_:(List zab)→Prop)(s0_0:Int)(s0_1:(List zab)):Prop:=Br (decide (s0_0<(lenM zaa.enc a0))) (∃xa1:zaa,Got zaa.enc a0 s0_0 xa1 (App2 24 zab.enc s0_1 [xa1.Lot] (Num .i64 (s0_0+1) (X_ (s0_0+1) (s0_1++[xa1.Lot]))))) (zfk_x0_0 a0 Q0_ s0_1)
def zfk_h0 (a0:(List zaa))(s0_0:Int)(s0_1:(List zab)):HT (List zab) := .both 10 (.ex (zaa) fun xa1 => .op 4 0 (.row (s0_0:Int).toNat (zaa.enc xa1)) (.op 5 4 (.no) (.rw 17 (((s0_1++[xa1.Lot]):List zab).map zab.enc) (.op 6 0 (.nw) (.round [.keep [4,7,8,9] [17]]))))) (.ret [.keep [4] [17]] s0_1)
theorem zfk_l0 {a0 Q0_ s0_0 s0_1}(h:zfk_w0 a0 (zfk_L0 a0 Q0_) Q0_ s0_0 s0_1):zfk_L0 a0 Q0_ s0_0 s0_1:=Qac _ (zfk_h0 a0 s0_0 s0_1) h (by kernel_rfl)
def zfk_R (v:(List zab)×Int):A:=(.tup [(.t (.sl 2 ((v.1:List zab).map zab.enc))),(.t (i64 v.2))])
def zfk_O (v:(List zab)×Int):List (Nat×O):=[]
def zfk_e (Q:((List zab)×Int)→Prop)(v:(List zab)×Int):Prop:=Rt (zfk_R) (zfk_O) v (Q v)
def zfk_r (a0:(List zaa))(v:(List zab)×Int):Prop:=Con Tryz.prog 115 [(.t (.sl 9 ((a0:List zaa).map zaa.enc)))] [] (fun r_ o_=>r_=zfk_R v∧o_=zfk_O v)
def zfk_w (a0:(List zaa))(Q_:((List zab)×Int)→Prop):Prop:=zfk_L0 a0 (fun(y1:(List zab))=>∃r2:(List zab)×Int,(zde_r y1 r2)∧(zfk_e Q_ (r2.1,r2.2))) 0 []
def zfk_h (a0:(List zaa)):HT ((List zab)×Int) := .loop [.own 4 17 2,.keep [4,7,8,9] [17]] (.out ((List zab)) (.exit 0) [.keep [4] [17]] (zfk_q0_0 a0) (fun y1 => .reg 7 [.frz 17] [] (.ex ((List zab)×Int) fun r2 => .op 7 1 (.call [] (.tup [(.t (.sl 2 ((r2.1:List zab).map zab.enc))),(.t (i64 r2.2))]) []) (.fin [] [] (r2.1,r2.2)))) (.nil))
theorem zfk_of {a0 v}(h:zfk_w a0 (fun v_=>v_=v)):zfk_r a0 v:=Qaa Tryz.call115 Tryz.func115 [] (zfk_h a0) h
def zdz_R (v:Bool):A:=(.t (boo v))
def zdz_O (v:Bool):List (Nat×O):=[]
def zdz_e (Q:Bool→Prop)(v:Bool):Prop:=Rt (zdz_R) (zdz_O) v (Q v)
def zdz_r (a0:Int)(v:Bool):Prop:=Con Tryz.prog 44 [(.t (i64 a0))] [] (fun r_ o_=>r_=zdz_R v∧o_=zdz_O v)
def zdz_w (a0:Int)(Q_:Bool→Prop):Prop:=Br (decide (a0≥1)) (zdz_e Q_ (decide (a0≤1125899906842624))) (zdz_e Q_ false)
def zdz_h (a0:Int):HT Bool := .bo 1 2 (.fin [] [] (decide (a0≤1125899906842624))) (.fin [] [] false)
theorem zdz_of {a0 v}(h:zdz_w a0 (fun v_=>v_=v)):zdz_r a0 v:=Qaa Tryz.call44 Tryz.func44 [] (zdz_h a0) h
def zcf_s0 (a0:(List zab))(a1:ByteArray)(s0_0:Int):St:=mkSt [(0,(.t (.sl 2 ((a0:List zab).map zab.enc)))),(1,(.t (str a1))),(5,(.t (i64 s0_0)))] [] []
def zcf_q0_0 (a0:(List zab))(a1:ByteArray)(y:Int):St:=mkSt [(4,(.t (i64 y)))] [] []
def zcf_x0_0 (a0:(List zab))(a1:ByteArray)(Q:Int→Prop)(y:Int):Prop:=Lf .ret (zcf_q0_0 a0 a1) y (Q y)
def zcf_q0_1 (a0:(List zab))(a1:ByteArray)(y:Unit):St:=mkSt [] [] []
def zcf_x0_1 (a0:(List zab))(a1:ByteArray)(Q:Unit→Prop)(y:Unit):Prop:=Lf (.exit 0) (zcf_q0_1 a0 a1) y (Q y)
def zcf_L0 (a0:(List zab))(a1:ByteArray)(Q0_:Int→Prop)(Q1_:Unit→Prop)(s0_0:Int):Prop:=LW Tryz.prog 24 (loopAt Tryz.f45 0) (Outs.K (.cons .ret [.keep [4] []] (zcf_q0_0 a0 a1) Q0_ (.one (.exit 0) [.keep [] []] (zcf_q0_1 a0 a1) Q1_))) (zcf_s0 a0 a1 s0_0)
def zcf_w0 (a0:(List zab))(a1:ByteArray)(X_:Int→Prop)(Q0_:Int→Prop)(Q1_:Unit→Prop)(s0_0:Int):Prop:=Br (decide (s0_0<(lenM zab.enc a0))) (∃xa1:zab,Got zab.enc a0 s0_0 xa1 (Br (strEq xa1.ISIN a1) (Got zab.enc a0 s0_0 xa1 (zcf_x0_0 a0 a1 Q0_ xa1.Qty)) (Num .i64 (s0_0+1) (X_ (s0_0+1))))) (zcf_x0_1 a0 a1 Q1_ ())
def zcf_h0 (a0:(List zab))(a1:ByteArray)(s0_0:Int):HT (Int ⊕ Unit) := .both 9 (.ex (zab) fun xa1 => .op 4 2 (.row (s0_0:Int).toNat (zab.enc xa1)) (.both 18 (.op 5 2 (.row (s0_0:Int).toNat (zab.enc xa1)) (.ret [.keep [4] []] (.inl xa1.Qty))) (.op 3 1 (.nw) (.round [.keep [0,1,5] []])))) (.ret [.keep [] []] (.inr ()))
theorem zcf_l0 {a0 a1 Q0_ Q1_ s0_0}(h:zcf_w0 a0 a1 (zcf_L0 a0 a1 Q0_ Q1_) Q0_ Q1_ s0_0):zcf_L0 a0 a1 Q0_ Q1_ s0_0:=Qac _ (zcf_h0 a0 a1 s0_0) h (by kernel_rfl)
def zcf_R (v:Int):A:=(.t (i64 v))
def zcf_O (v:Int):List (Nat×O):=[]
def zcf_e (Q:Int→Prop)(v:Int):Prop:=Rt (zcf_R) (zcf_O) v (Q v)
def zcf_r (a0:(List zab))(a1:ByteArray)(v:Int):Prop:=Con Tryz.prog 45 [(.t (.sl 2 ((a0:List zab).map zab.enc))),(.t (str a1))] [] (fun r_ o_=>r_=zcf_R v∧o_=zcf_O v)
def zcf_w (a0:(List zab))(a1:ByteArray)(Q_:Int→Prop):Prop:=zcf_L0 a0 a1 (fun(y1:Int)=>zcf_e Q_ y1) (fun(y1:Unit)=>zcf_e Q_ 0) 0
def zcf_h (a0:(List zab))(a1:ByteArray):HT Int := .loop [.keep [0,1,5] []] (.out (Int) .ret [.keep [4] []] (zcf_q0_0 a0 a1) (fun y1 => .fin [] [] y1) (.out (Unit) (.exit 0) [.keep [] []] (zcf_q0_1 a0 a1) (fun y1 => .fin [] [] 0) (.nil)))
theorem zcf_of {a0 a1 v}(h:zcf_w a0 a1 (fun v_=>v_=v)):zcf_r a0 a1 v:=Qaa Tryz.call45 Tryz.func45 [] (zcf_h a0 a1) h
def zck_s0 (a0:(List zab))(a1:ByteArray)(a2:Int)(s0_0:Bool)(s0_1:Int)(s0_2:(List zab)):St:=mkSt [(0,(.t (.sl 2 ((a0:List zab).map zab.enc)))),(1,(.t (str a1))),(2,(.t (i64 a2))),(7,(.ref 34)),(8,(.t (boo s0_0))),(9,(.t (i64 s0_1)))] [(34,(.row 2 ((s0_2:List zab).map zab.enc)))] []
def zck_q0_0 (a0:(List zab))(a1:ByteArray)(a2:Int)(y:Bool×(List zab)):St:=mkSt [(1,(.t (str a1))),(2,(.t (i64 a2))),(7,(.ref 34)),(8,(.t (boo y.1)))] [(34,(.row 2 ((y.2:List zab).map zab.enc)))] []
def zck_x0_0 (a0:(List zab))(a1:ByteArray)(a2:Int)(Q:(Bool×(List zab))→Prop)(y:Bool×(List zab)):Prop:=Lf (.exit 0) (zck_q0_0 a0 a1 a2) y (Q y)
def zck_L0 (a0:(List zab))(a1:ByteArray)(a2:Int)(Q0_:(Bool×(List zab))→Prop)(s0_0:Bool)(s0_1:Int)(s0_2:(List zab)):Prop:=LW Tryz.prog 58 (loopAt Tryz.f46 0) (Outs.K (.one (.exit 0) [.keep [1,2,7,8] [34]] (zck_q0_0 a0 a1 a2) Q0_)) (zck_s0 a0 a1 a2 s0_0 s0_1 s0_2)
def zck_w0 (a0:(List zab))(a1:ByteArray)(a2:Int)(X_:Bool→Int→(List zab)→Prop)(Q0_:(Bool×(List zab))→Prop)(s0_0:Bool)(s0_1:Int)(s0_2:(List zab)):Prop:=Br (decide (s0_1<(lenM zab.enc a0))) (Br (!s0_0) (∃xa1:zab,Got zab.enc a0 s0_1 xa1 (Br (!strLt xa1.ISIN a1) (App2 24 zab.enc s0_2 [(⟨a1,a2⟩:zab)] (Got zab.enc a0 s0_1 xa1 (Br (!strEq xa1.ISIN a1) (Got zab.enc a0 s0_1 xa1 (App2 24 zab.enc (s0_2++[(⟨a1,a2⟩:zab)]) [xa1] (Num .i64 (s0_1+1) (X_ true (s0_1+1) ((s0_2++[(⟨a1,a2⟩:zab)])++[xa1]))))) (Num .i64 (s0_1+1) (X_ true (s0_1+1) (s0_2++[(⟨a1,a2⟩:zab)])))))) (Got zab.enc a0 s0_1 xa1 (Br (!strEq xa1.ISIN a1) (Got zab.enc a0 s0_1 xa1 (App2 24 zab.enc s0_2 [xa1] (Num .i64 (s0_1+1) (X_ s0_0 (s0_1+1) (s0_2++[xa1]))))) (Num .i64 (s0_1+1) (X_ s0_0 (s0_1+1) s0_2)))))) (∃xa1:zab,Got zab.enc a0 s0_1 xa1 (Br (!strEq xa1.ISIN a1) (Got zab.enc a0 s0_1 xa1 (App2 24 zab.enc s0_2 [xa1] (Num .i64 (s0_1+1) (X_ s0_0 (s0_1+1) (s0_2++[xa1]))))) (Num .i64 (s0_1+1) (X_ s0_0 (s0_1+1) s0_2))))) (zck_x0_0 a0 a1 a2 Q0_ (s0_0,s0_2))
def zck_h0 (a0:(List zab))(a1:ByteArray)(a2:Int)(s0_0:Bool)(s0_1:Int)(s0_2:(List zab)):HT (Bool×(List zab)) := .both 15 (.bo 6 2 (.ex (zab) fun xa1 => .op 6 5 (.row (s0_1:Int).toNat (zab.enc xa1)) (.both 28 (.op 7 5 (.no) (.rw 34 (((s0_2++[(⟨a1,a2⟩:zab)]):List zab).map zab.enc) (.op 9 2 (.row (s0_1:Int).toNat (zab.enc xa1)) (.both 41 (.op 10 3 (.row (s0_1:Int).toNat (zab.enc xa1)) (.op 10 6 (.no) (.rw 48 ((((s0_2++[(⟨a1,a2⟩:zab)])++[xa1]):List zab).map zab.enc) (.op 5 1 (.nw) (.round [.ren 48 34,.keep [0,1,2,7,8,9] [34]]))))) (.op 5 1 (.nw) (.round [.keep [0,1,2,7,8,9] [34]])))))) (.op 9 2 (.row (s0_1:Int).toNat (zab.enc xa1)) (.both 41 (.op 10 3 (.row (s0_1:Int).toNat (zab.enc xa1)) (.op 10 6 (.no) (.rw 48 (((s0_2++[xa1]):List zab).map zab.enc) (.op 5 1 (.nw) (.round [.ren 48 34,.keep [0,1,2,7,8,9] [34]]))))) (.op 5 1 (.nw) (.round [.keep [0,1,2,7,8,9] [34]])))))) (.ex (zab) fun xa1 => .op 9 2 (.row (s0_1:Int).toNat (zab.enc xa1)) (.both 41 (.op 10 3 (.row (s0_1:Int).toNat (zab.enc xa1)) (.op 10 6 (.no) (.rw 48 (((s0_2++[xa1]):List zab).map zab.enc) (.op 5 1 (.nw) (.round [.ren 48 34,.keep [0,1,2,7,8,9] [34]]))))) (.op 5 1 (.nw) (.round [.keep [0,1,2,7,8,9] [34]]))))) (.ret [.keep [1,2,7,8] [34]] (s0_0,s0_2))
theorem zck_l0 {a0 a1 a2 Q0_ s0_0 s0_1 s0_2}(h:zck_w0 a0 a1 a2 (zck_L0 a0 a1 a2 Q0_) Q0_ s0_0 s0_1 s0_2):zck_L0 a0 a1 a2 Q0_ s0_0 s0_1 s0_2:=Qac _ (zck_h0 a0 a1 a2 s0_0 s0_1 s0_2) h (by kernel_rfl)
def zck_R (v:(List zab)):A:=(.t (.sl 2 ((v:List zab).map zab.enc)))
def zck_O (v:(List zab)):List (Nat×O):=[]
def zck_e (Q:(List zab)→Prop)(v:(List zab)):Prop:=Rt (zck_R) (zck_O) v (Q v)
def zck_r (a0:(List zab))(a1:ByteArray)(a2:Int)(v:(List zab)):Prop:=Con Tryz.prog 46 [(.t (.sl 2 ((a0:List zab).map zab.enc))),(.t (str a1)),(.t (i64 a2))] [] (fun r_ o_=>r_=zck_R v∧o_=zck_O v)
def zck_w (a0:(List zab))(a1:ByteArray)(a2:Int)(Q_:(List zab)→Prop):Prop:=zck_L0 a0 a1 a2 (fun(y1:Bool×(List zab))=>Br (!y1.1) (App2 24 zab.enc y1.2 [(⟨a1,a2⟩:zab)] (zck_e Q_ (y1.2++[(⟨a1,a2⟩:zab)]))) (zck_e Q_ y1.2)) (a2==0) 0 []
def zck_h (a0:(List zab))(a1:ByteArray)(a2:Int):HT (List zab) := .loop [.own 7 34 2,.keep [0,1,2,7,8,9] [34]] (.out (Bool×(List zab)) (.exit 0) [.keep [1,2,7,8] [34]] (zck_q0_0 a0 a1 a2) (fun y1 => .both 50 (.op 12 5 (.no) (.rw 56 (((y1.2++[(⟨a1,a2⟩:zab)]):List zab).map zab.enc) (.fin [] [] (y1.2++[(⟨a1,a2⟩:zab)])))) (.fin [] [] y1.2)) (.nil))
theorem zck_of {a0 a1 a2 v}(h:zck_w a0 a1 a2 (fun v_=>v_=v)):zck_r a0 a1 a2 v:=Qaa Tryz.call46 Tryz.func46 [] (zck_h a0 a1 a2) h
def zbf_s0 (a1:(List zab))(s0_0:(List zab))(s0_1:Int):St:=mkSt [(1,(.t (.sl 2 ((a1:List zab).map zab.enc)))),(6,(.t (.sl 2 ((s0_0:List zab).map zab.enc)))),(7,(.t (i64 s0_1)))] [] []
def zbf_q0_0 (a1:(List zab))(y:Int):St:=mkSt [(4,(.t (.v (.slice none 0 0)))),(5,(.t (i64 y)))] [] []
def Qgr (a1:(List zab))(Q:Int→Prop)(y:Int):Prop:=Lf .ret (zbf_q0_0 a1) y (Q y)
def zbf_q0_1 (a1:(List zab))(y:(List zab)):St:=mkSt [(6,(.t (.sl 2 ((y:List zab).map zab.enc))))] [] []
def zbf_x0_1 (a1:(List zab))(Q:(List zab)→Prop)(y:(List zab)):Prop:=Lf (.exit 0) (zbf_q0_1 a1) y (Q y)
def zbf_L0 (a1:(List zab))(Q0_:Int→Prop)(Q1_:(List zab)→Prop)(s0_0:(List zab))(s0_1:Int):Prop:=LW Tryz.prog 53 (loopAt Tryz.f20 0) (Outs.K (.cons .ret [.keep [4,5] []] (zbf_q0_0 a1) Q0_ (.one (.exit 0) [.keep [6] []] (zbf_q0_1 a1) Q1_))) (zbf_s0 a1 s0_0 s0_1)
def zbf_w0 (a1:(List zab))(X_:(List zab)→Int→Prop)(Q0_:Int→Prop)(Q1_:(List zab)→Prop)(s0_0:(List zab))(s0_1:Int):Prop:=Br (decide (s0_1<(lenM zab.enc a1))) (∃xa1:zab,Got zab.enc a1 s0_1 xa1 (∃ra2:Int,(zcf_r s0_0 xa1.ISIN ra2)∧(Br (ra2==0) (Br (decide ((lenM zab.enc s0_0)≥64)) (Qgr a1 Q0_ 2) (Got zab.enc a1 s0_1 xa1 (Num .i64 (1125899906842624-ra2) (Br (decide (xa1.Qty>(1125899906842624-ra2))) (Qgr a1 Q0_ 9) (Got zab.enc a1 s0_1 xa1 (Got zab.enc a1 s0_1 xa1 (Num .i64 (ra2+xa1.Qty) (∃ra3:(List zab),(zck_r s0_0 xa1.ISIN (ra2+xa1.Qty) ra3)∧(Num .i64 (s0_1+1) (X_ ra3 (s0_1+1))))))))))) (Got zab.enc a1 s0_1 xa1 (Num .i64 (1125899906842624-ra2) (Br (decide (xa1.Qty>(1125899906842624-ra2))) (Qgr a1 Q0_ 9) (Got zab.enc a1 s0_1 xa1 (Got zab.enc a1 s0_1 xa1 (Num .i64 (ra2+xa1.Qty) (∃ra3:(List zab),(zck_r s0_0 xa1.ISIN (ra2+xa1.Qty) ra3)∧(Num .i64 (s0_1+1) (X_ ra3 (s0_1+1))))))))))))) (zbf_x0_1 a1 Q1_ s0_0)
def zbf_h0 (a1:(List zab))(s0_0:(List zab))(s0_1:Int):HT (Int ⊕ (List zab)) := .both 13 (.ex (zab) fun xa1 => .op 5 3 (.row (s0_1:Int).toNat (zab.enc xa1)) (.ex (Int) fun ra2 => .op 5 6 (.call [] (.t (i64 ra2)) []) (.bo 6 2 (.both 29 (.ret [.keep [4,5] []] (.inl 2)) (.op 8 2 (.row (s0_1:Int).toNat (zab.enc xa1)) (.op 8 6 (.nw) (.both 37 (.ret [.keep [4,5] []] (.inl 9)) (.op 10 3 (.row (s0_1:Int).toNat (zab.enc xa1)) (.op 10 9 (.row (s0_1:Int).toNat (zab.enc xa1)) (.op 10 12 (.nw) (.ex ((List zab)) fun ra3 => .op 10 13 (.call [] (.t (.sl 2 ((ra3:List zab).map zab.enc))) []) (.op 4 1 (.nw) (.round [.keep [1,6,7] []])))))))))) (.op 8 2 (.row (s0_1:Int).toNat (zab.enc xa1)) (.op 8 6 (.nw) (.both 37 (.ret [.keep [4,5] []] (.inl 9)) (.op 10 3 (.row (s0_1:Int).toNat (zab.enc xa1)) (.op 10 9 (.row (s0_1:Int).toNat (zab.enc xa1)) (.op 10 12 (.nw) (.ex ((List zab)) fun ra3 => .op 10 13 (.call [] (.t (.sl 2 ((ra3:List zab).map zab.enc))) []) (.op 4 1 (.nw) (.round [.keep [1,6,7] []])))))))))))) (.ret [.keep [6] []] (.inr s0_0))
theorem zbf_l0 {a1 Q0_ Q1_ s0_0 s0_1}(h:zbf_w0 a1 (zbf_L0 a1 Q0_ Q1_) Q0_ Q1_ s0_0 s0_1):zbf_L0 a1 Q0_ Q1_ s0_0 s0_1:=Qac _ (zbf_h0 a1 s0_0 s0_1) h (by kernel_rfl)
def zbf_R (v:(List zab)×Int):A:=(.tup [(.t (.sl 2 ((v.1:List zab).map zab.enc))),(.t (i64 v.2))])
def zbf_O (v:(List zab)×Int):List (Nat×O):=[]
def zbf_e (Q:((List zab)×Int)→Prop)(v:(List zab)×Int):Prop:=Rt (zbf_R) (zbf_O) v (Q v)
def zbf_r (a0:(List zab))(a1:(List zab))(v:(List zab)×Int):Prop:=Con Tryz.prog 20 [(.t (.sl 2 ((a0:List zab).map zab.enc))),(.t (.sl 2 ((a1:List zab).map zab.enc)))] [] (fun r_ o_=>r_=zbf_R v∧o_=zbf_O v)
def zbf_w (a0:(List zab))(a1:(List zab))(Q_:((List zab)×Int)→Prop):Prop:=zbf_L0 a1 (fun(y1:Int)=>zbf_e Q_ ([],y1)) (fun(y1:(List zab))=>zbf_e Q_ (y1,0)) a0 0
def zbf_h (a0:(List zab))(a1:(List zab)):HT ((List zab)×Int) := .loop [.keep [1,6,7] []] (.out (Int) .ret [.keep [4,5] []] (zbf_q0_0 a1) (fun y1 => .fin [] [([0],2)] ([],y1)) (.out ((List zab)) (.exit 0) [.keep [6] []] (zbf_q0_1 a1) (fun y1 => .fin [] [] (y1,0)) (.nil)))
theorem zbf_of {a0 a1 v}(h:zbf_w a0 a1 (fun v_=>v_=v)):zbf_r a0 a1 v:=Qaa Tryz.call20 Tryz.func20 [] (zbf_h a0 a1) h
def zbu_s0 (a0:(List zab))(s0_0:(List zab))(s0_1:Int):St:=mkSt [(0,(.t (.sl 2 ((a0:List zab).map zab.enc)))),(4,(.t (.sl 2 ((s0_0:List zab).map zab.enc)))),(5,(.t (i64 s0_1)))] [] []
def zbu_q0_0 (a0:(List zab))(y:Int):St:=mkSt [(2,(.t (.v (.slice none 0 0)))),(3,(.t (i64 y)))] [] []
def zbu_x0_0 (a0:(List zab))(Q:Int→Prop)(y:Int):Prop:=Lf .ret (zbu_q0_0 a0) y (Q y)
def zbu_q0_1 (a0:(List zab))(y:(List zab)):St:=mkSt [(4,(.t (.sl 2 ((y:List zab).map zab.enc))))] [] []
def zbu_x0_1 (a0:(List zab))(Q:(List zab)→Prop)(y:(List zab)):Prop:=Lf (.exit 0) (zbu_q0_1 a0) y (Q y)
def zbu_L0 (a0:(List zab))(Q0_:Int→Prop)(Q1_:(List zab)→Prop)(s0_0:(List zab))(s0_1:Int):Prop:=LW Tryz.prog 36 (loopAt Tryz.f19 0) (Outs.K (.cons .ret [.keep [2,3] []] (zbu_q0_0 a0) Q0_ (.one (.exit 0) [.keep [4] []] (zbu_q0_1 a0) Q1_))) (zbu_s0 a0 s0_0 s0_1)
def zbu_w0 (a0:(List zab))(X_:(List zab)→Int→Prop)(Q0_:Int→Prop)(Q1_:(List zab)→Prop)(s0_0:(List zab))(s0_1:Int):Prop:=Br (decide (s0_1<(lenM zab.enc a0))) (∃xa1:zab,Got zab.enc a0 s0_1 xa1 (∃ra2:Bool,(zdz_r xa1.Qty ra2)∧(Br (!ra2) (zbu_x0_0 a0 Q0_ 1) (Num .i64 (s0_1+1) (CutLlh zab.enc a0 s0_1 (s0_1+1) (∃ra3:(List zab)×Int,(zbf_r s0_0 ((a0.take ((s0_1+1):Int).toNat).drop (s0_1:Int).toNat) ra3)∧(Br (ra3.2 != 0) (zbu_x0_0 a0 Q0_ ra3.2) (Num .i64 (s0_1+1) (X_ ra3.1 (s0_1+1)))))))))) (zbu_x0_1 a0 Q1_ s0_0)
def zbu_h0 (a0:(List zab))(s0_0:(List zab))(s0_1:Int):HT (Int ⊕ (List zab)) := .both 11 (.ex (zab) fun xa1 => .op 5 2 (.row (s0_1:Int).toNat (zab.enc xa1)) (.ex (Bool) fun ra2 => .op 5 5 (.call [] (.t (boo ra2)) []) (.both 20 (.ret [.keep [2,3] []] (.inl 1)) (.op 7 4 (.nw) (.op 7 5 (.cut (s0_1:Int).toNat ((s0_1+1):Int).toNat) (.rwS 27 ((((a0.take ((s0_1+1):Int).toNat).drop (s0_1:Int).toNat):List zab).map zab.enc) (.ex ((List zab)×Int) fun ra3 => .op 7 6 (.call [] (.tup [(.t (.sl 2 ((ra3.1:List zab).map zab.enc))),(.t (i64 ra3.2))]) []) (.both 32 (.ret [.keep [2,3] []] (.inl ra3.2)) (.op 4 1 (.nw) (.round [.keep [0,4,5] []])))))))))) (.ret [.keep [4] []] (.inr s0_0))
theorem zbu_l0 {a0 Q0_ Q1_ s0_0 s0_1}(h:zbu_w0 a0 (zbu_L0 a0 Q0_ Q1_) Q0_ Q1_ s0_0 s0_1):zbu_L0 a0 Q0_ Q1_ s0_0 s0_1:=Qac _ (zbu_h0 a0 s0_0 s0_1) h (by kernel_rfl)
def zbu_R (v:(List zab)×Int):A:=(.tup [(.t (.sl 2 ((v.1:List zab).map zab.enc))),(.t (i64 v.2))])
def zbu_O (v:(List zab)×Int):List (Nat×O):=[]
def zbu_e (Q:((List zab)×Int)→Prop)(v:(List zab)×Int):Prop:=Rt (zbu_R) (zbu_O) v (Q v)
def zbu_r (a0:(List zab))(v:(List zab)×Int):Prop:=Con Tryz.prog 19 [(.t (.sl 2 ((a0:List zab).map zab.enc)))] [] (fun r_ o_=>r_=zbu_R v∧o_=zbu_O v)
def zbu_w (a0:(List zab))(Q_:((List zab)×Int)→Prop):Prop:=zbu_L0 a0 (fun(y1:Int)=>zbu_e Q_ ([],y1)) (fun(y1:(List zab))=>zbu_e Q_ (y1,0)) [] 0
def zbu_h (a0:(List zab)):HT ((List zab)×Int) := .loop [.nil 4 2,.keep [0,4,5] []] (.out (Int) .ret [.keep [2,3] []] (zbu_q0_0 a0) (fun y1 => .fin [] [([0],2)] ([],y1)) (.out ((List zab)) (.exit 0) [.keep [4] []] (zbu_q0_1 a0) (fun y1 => .fin [] [] (y1,0)) (.nil)))
theorem zbu_of {a0 v}(h:zbu_w a0 (fun v_=>v_=v)):zbu_r a0 v:=Qaa Tryz.call19 Tryz.func19 [] (zbu_h a0) h
def zer_R (v:Int):A:=(.t (i64 v))
def zer_O (v:Int):List (Nat×O):=[]
def zer_e (Q:Int→Prop)(v:Int):Prop:=Rt (zer_R) (zer_O) v (Q v)
def zer_r (a0:zaf)(a1:ByteArray)(v:Int):Prop:=Con Tryz.prog 94 [(.agg [(.t (str a0.ISIN)),(.t (i64 a0.Issuer)),(.t (i64 a0.Rating)),(.t (i64 a0.Maturity)),(.t (str a0.Currency))]),(.t (str a1))] [] (fun r_ o_=>r_=zer_R v∧o_=zer_O v)
def zer_w (a0:zaf)(a1:ByteArray)(Q_:Int→Prop):Prop:=∃r1:Int,(zdm_r a0.ISIN a1 r1)∧(zer_e Q_ r1)
def zer_h (a0:zaf)(a1:ByteArray):HT Int := .ex (Int) fun r1 => .op 1 3 (.call [] (.t (i64 r1)) []) (.fin [] [] r1)
theorem zer_of {a0 a1 v}(h:zer_w a0 a1 (fun v_=>v_=v)):zer_r a0 a1 v:=Qaa Tryz.call94 Tryz.func94 [] (zer_h a0 a1) h
def zam_s0 (a0:(List zaf))(a1:ByteArray)(s0_0:Int)(s0_1:Int):St:=mkSt [(0,(.t (.sl 5 ((a0:List zaf).map zaf.enc)))),(1,(.t (str a1))),(2,(.fn 94 [])),(8,(.t (i64 (lenM zaf.enc a0)))),(9,(.t (i64 s0_0))),(10,(.t (i64 s0_1)))] [] []
def zam_q0_0 (a0:(List zaf))(a1:ByteArray)(y:Int):St:=mkSt [(0,(.t (.sl 5 ((a0:List zaf).map zaf.enc)))),(1,(.t (str a1))),(2,(.fn 94 [])),(8,(.t (i64 (lenM zaf.enc a0)))),(9,(.t (i64 y)))] [] []
def zam_x0_0 (a0:(List zaf))(a1:ByteArray)(Q:Int→Prop)(y:Int):Prop:=Lf (.exit 0) (zam_q0_0 a0 a1) y (Q y)
def zam_L0 (a0:(List zaf))(a1:ByteArray)(Q0_:Int→Prop)(s0_0:Int)(s0_1:Int):Prop:=LW Tryz.prog 49 (loopAt Tryz.f93 0) (Outs.K (.one (.exit 0) [.keep [0,1,2,8,9] []] (zam_q0_0 a0 a1) Q0_)) (zam_s0 a0 a1 s0_0 s0_1)
def zam_w0 (a0:(List zaf))(a1:ByteArray)(X_:Int→Int→Prop)(Q0_:Int→Prop)(s0_0:Int)(s0_1:Int):Prop:=Br (decide (s0_0<s0_1)) (Num .i64 (s0_0+s0_1) (∃xa1:zaf,Got zaf.enc a0 (IntKind.wrap .i64 (Int.fdiv (IntKind.wrap .u64 (s0_0+s0_1)) 2)) xa1 (∃ra2:Int,(zer_r xa1 a1 ra2)∧(Br (decide (ra2<0)) (Num .i64 ((IntKind.wrap .i64 (Int.fdiv (IntKind.wrap .u64 (s0_0+s0_1)) 2))+1) (X_ ((IntKind.wrap .i64 (Int.fdiv (IntKind.wrap .u64 (s0_0+s0_1)) 2))+1) s0_1)) (X_ s0_0 (IntKind.wrap .i64 (Int.fdiv (IntKind.wrap .u64 (s0_0+s0_1)) 2))))))) (zam_x0_0 a0 a1 Q0_ s0_0)
def zam_h0 (a0:(List zaf))(a1:ByteArray)(s0_0:Int)(s0_1:Int):HT Int := .both 17 (.op 4 2 (.nw) (.ex (zaf) fun xa1 => .op 5 3 (.row ((IntKind.wrap .i64 (Int.fdiv (IntKind.wrap .u64 (s0_0+s0_1)) 2)):Int).toNat (zaf.enc xa1)) (.ex (Int) fun ra2 => .op 5 6 (.call [] (.t (i64 ra2)) []) (.both 31 (.op 6 1 (.nw) (.round [.keep [0,1,2,8,9,10] []])) (.round [.keep [0,1,2,8,9,10] []]))))) (.ret [.keep [0,1,2,8,9] []] s0_0)
theorem zam_l0 {a0 a1 Q0_ s0_0 s0_1}(h:zam_w0 a0 a1 (zam_L0 a0 a1 Q0_) Q0_ s0_0 s0_1):zam_L0 a0 a1 Q0_ s0_0 s0_1:=Qac _ (zam_h0 a0 a1 s0_0 s0_1) h (by kernel_rfl)
def zam_R (v:Int×Bool):A:=(.tup [(.t (i64 v.1)),(.t (boo v.2))])
def zam_O (v:Int×Bool):List (Nat×O):=[]
def zam_e (Q:(Int×Bool)→Prop)(v:Int×Bool):Prop:=Rt (zam_R) (zam_O) v (Q v)
def zam_r (a0:(List zaf))(a1:ByteArray)(v:Int×Bool):Prop:=Con Tryz.prog 93 [(.t (.sl 5 ((a0:List zaf).map zaf.enc))),(.t (str a1)),(.fn 94 [])] [] (fun r_ o_=>r_=zam_R v∧o_=zam_O v)
def zam_w (a0:(List zaf))(a1:ByteArray)(Q_:(Int×Bool)→Prop):Prop:=zam_L0 a0 a1 (fun(y1:Int)=>Br (decide (y1<(lenM zaf.enc a0))) (∃x2:zaf,Got zaf.enc a0 y1 x2 (∃r3:Int,(zer_r x2 a1 r3)∧(zam_e Q_ (y1,(r3==0))))) (zam_e Q_ (y1,false))) 0 (lenM zaf.enc a0)
def zam_h (a0:(List zaf))(a1:ByteArray):HT (Int×Bool) := .loop [.keep [0,1,2,8,9,10] []] (.out (Int) (.exit 0) [.keep [0,1,2,8,9] []] (zam_q0_0 a0 a1) (fun y1 => .bo 8 4 (.ex (zaf) fun x2 => .op 8 8 (.row (y1:Int).toNat (zaf.enc x2)) (.ex (Int) fun r3 => .op 8 11 (.call [] (.t (i64 r3)) []) (.fin [] [] (y1,(r3==0))))) (.fin [] [] (y1,false))) (.nil))
theorem zam_of {a0 a1 v}(h:zam_w a0 a1 (fun v_=>v_=v)):zam_r a0 a1 v:=Qaa Tryz.call93 Tryz.func93 [] (zam_h a0 a1) h
def zej_R (a0:zaw)(v:Int×Bool):A:=(.tup [(.t (i64 v.1)),(.t (boo v.2))])
def zej_O (a0:zaw)(v:Int×Bool):List (Nat×O):=[(700,(.box [(.ref 701),(.ref 702),(.t (boo a0.made))])),(701,(.row 5 ((a0.l:List zaf).map zaf.enc))),(702,(.row 1 ((a0.prices:List Int).map eN)))]
def zej_e (a0:zaw)(Q:(Int×Bool)→Prop)(v:Int×Bool):Prop:=Rt (zej_R a0) (zej_O a0) v (Q v)
def zej_r (a0:zaw)(a1:ByteArray)(v:Int×Bool):Prop:=Con Tryz.prog 52 [(.at 700 0),(.t (str a1))] [(700,(.box [(.ref 701),(.ref 702),(.t (boo a0.made))])),(701,(.row 5 ((a0.l:List zaf).map zaf.enc))),(702,(.row 1 ((a0.prices:List Int).map eN)))] (fun r_ o_=>r_=zej_R a0 v∧o_=zej_O a0 v)
def zej_w (a0:zaw)(a1:ByteArray)(Q_:(Int×Bool)→Prop):Prop:=∃r1:Int×Bool,(zam_r a0.l a1 r1)∧(zej_e a0 Q_ (r1.1,r1.2))
def zej_h (a0:zaw)(a1:ByteArray):HT (Int×Bool) := .ex (Int×Bool) fun r1 => .op 1 5 (.ro (.tup [(.t (i64 r1.1)),(.t (boo r1.2))])) (.fin [] [] (r1.1,r1.2))
theorem zej_of {a0 a1 v}(h:zej_w a0 a1 (fun v_=>v_=v)):zej_r a0 a1 v:=Qaa Tryz.call52 Tryz.func52 [700,701,702] (zej_h a0 a1) h
def zfn_R (a0:zaw)(v:zaf×Bool):A:=(.tup [(.agg [(.t (str v.1.ISIN)),(.t (i64 v.1.Issuer)),(.t (i64 v.1.Rating)),(.t (i64 v.1.Maturity)),(.t (str v.1.Currency))]),(.t (boo v.2))])
def zfn_O (a0:zaw)(v:zaf×Bool):List (Nat×O):=[(700,(.box [(.ref 701),(.ref 702),(.t (boo a0.made))])),(701,(.row 5 ((a0.l:List zaf).map zaf.enc))),(702,(.row 1 ((a0.prices:List Int).map eN)))]
def zfn_e (a0:zaw)(Q:(zaf×Bool)→Prop)(v:zaf×Bool):Prop:=Rt (zfn_R a0) (zfn_O a0) v (Q v)
def zfn_r (a0:zaw)(a1:ByteArray)(v:zaf×Bool):Prop:=Con Tryz.prog 101 [(.at 700 0),(.t (str a1))] [(700,(.box [(.ref 701),(.ref 702),(.t (boo a0.made))])),(701,(.row 5 ((a0.l:List zaf).map zaf.enc))),(702,(.row 1 ((a0.prices:List Int).map eN)))] (fun r_ o_=>r_=zfn_R a0 v∧o_=zfn_O a0 v)
def zfn_w (a0:zaw)(a1:ByteArray)(Q_:(zaf×Bool)→Prop):Prop:=∃r1:Int×Bool,(zej_r a0 a1 r1)∧(Br (!r1.2) (zfn_e a0 Q_ ((⟨ByteArray.empty,0,0,0,ByteArray.empty⟩:zaf),false)) (InL zaf.enc a0.l r1.1 (∃x2:zaf,EltG zaf.enc a0.l r1.1 x2 (zfn_e a0 Q_ (x2,true)))))
def zfn_h (a0:zaw)(a1:ByteArray):HT (zaf×Bool) := .ex (Int×Bool) fun r1 => .op 3 2 (.callR [] [700,701,702] [700,701,702] (.tup [(.t (i64 r1.1)),(.t (boo r1.2))]) []) (.both 18 (.fin [] [] ((⟨ByteArray.empty,0,0,0,ByteArray.empty⟩:zaf),false)) (.op 6 5 (.ix (r1.1:Int).toNat) (.ex (zaf) fun x2 => .op 6 6 (.row (r1.1:Int).toNat (zaf.enc x2)) (.fin [] [] (x2,true)))))
theorem zfn_of {a0 a1 v}(h:zfn_w a0 a1 (fun v_=>v_=v)):zfn_r a0 a1 v:=Qaa Tryz.call101 Tryz.func101 [700,701,702] (zfn_h a0 a1) h
def zfc_R (a0:zaw)(v:Int×Bool):A:=(.tup [(.t (i64 v.1)),(.t (boo v.2))])
def zfc_O (a0:zaw)(v:Int×Bool):List (Nat×O):=[(700,(.box [(.ref 701),(.ref 702),(.t (boo a0.made))])),(701,(.row 5 ((a0.l:List zaf).map zaf.enc))),(702,(.row 1 ((a0.prices:List Int).map eN)))]
def zfc_e (a0:zaw)(Q:(Int×Bool)→Prop)(v:Int×Bool):Prop:=Rt (zfc_R a0) (zfc_O a0) v (Q v)
def zfc_r (a0:zaw)(a1:ByteArray)(v:Int×Bool):Prop:=Con Tryz.prog 102 [(.at 700 0),(.t (str a1))] [(700,(.box [(.ref 701),(.ref 702),(.t (boo a0.made))])),(701,(.row 5 ((a0.l:List zaf).map zaf.enc))),(702,(.row 1 ((a0.prices:List Int).map eN)))] (fun r_ o_=>r_=zfc_R a0 v∧o_=zfc_O a0 v)
def zfc_w (a0:zaw)(a1:ByteArray)(Q_:(Int×Bool)→Prop):Prop:=∃r1:Int×Bool,(zej_r a0 a1 r1)∧(Br (!r1.2) (zfc_e a0 Q_ (0,false)) (InL eN a0.prices r1.1 (∃x2:Int,EltG eN a0.prices r1.1 x2 (Br (x2==0) (zfc_e a0 Q_ (0,false)) (InL eN a0.prices r1.1 (EltG eN a0.prices r1.1 x2 (zfc_e a0 Q_ (x2,true))))))))
def zfc_h (a0:zaw)(a1:ByteArray):HT (Int×Bool) := .ex (Int×Bool) fun r1 => .op 3 2 (.callR [] [700,701,702] [700,701,702] (.tup [(.t (i64 r1.1)),(.t (boo r1.2))]) []) (.bo 4 2 (.fin [] [] (0,false)) (.op 4 8 (.ix (r1.1:Int).toNat) (.ex (Int) fun x2 => .op 4 9 (.row (r1.1:Int).toNat (eN x2)) (.both 27 (.fin [] [] (0,false)) (.op 6 5 (.ix (r1.1:Int).toNat) (.op 6 6 (.row (r1.1:Int).toNat (eN x2)) (.fin [] [] (x2,true))))))))
theorem zfc_of {a0 a1 v}(h:zfc_w a0 a1 (fun v_=>v_=v)):zfc_r a0 a1 v:=Qaa Tryz.call102 Tryz.func102 [700,701,702] (zfc_h a0 a1) h
def zge_R (v:Int):A:=(.t (i64 v))
def zge_O (v:Int):List (Nat×O):=[]
def zge_e (Q:Int→Prop)(v:Int):Prop:=Rt (zge_R) (zge_O) v (Q v)
def zge_r (a0:zaf)(a1:Int)(v:Int):Prop:=Con Tryz.prog 154 [(.agg [(.t (str a0.ISIN)),(.t (i64 a0.Issuer)),(.t (i64 a0.Rating)),(.t (i64 a0.Maturity)),(.t (str a0.Currency))]),(.t (i64 a1))] [] (fun r_ o_=>r_=zge_R v∧o_=zge_O v)
def zge_w (a0:zaf)(a1:Int)(Q_:Int→Prop):Prop:=Br (decide (a1<0)) (zge_e Q_ (-1)) (Br (decide (a1>200000)) (zge_e Q_ (-1)) (Num .i64 (a0.Maturity-a1) (zge_e Q_ (a0.Maturity-a1))))
def zge_h (a0:zaf)(a1:Int):HT Int := .bo 1 2 (.fin [] [] (-1)) (.both 10 (.fin [] [] (-1)) (.op 3 3 (.nw) (.fin [] [] (a0.Maturity-a1))))
theorem zge_of {a0 a1 v}(h:zge_w a0 a1 (fun v_=>v_=v)):zge_r a0 a1 v:=Qaa Tryz.call154 Tryz.func154 [] (zge_h a0 a1) h
def zdi_s0 (r1:Int)(a0:zat)(a1:zaf)(s0_0:Int):St:=mkSt [(4,(.at 4 0)),(8,(.t (i64 r1))),(17,(.t (.sl 3 ((a0.Cuts:List zbs).map zbs.enc)))),(18,(.t (i64 (lenM zbs.enc a0.Cuts)))),(19,(.t (i64 s0_0)))] [(4,(.box [(.t (str a1.ISIN)),(.t (i64 a1.Issuer)),(.t (i64 a1.Rating)),(.t (i64 a1.Maturity)),(.t (str a1.Currency))]))] []
def zdi_q0_0 (r1:Int)(a0:zat)(a1:zaf)(y:Int):St:=mkSt [(6,(.t (i64 y))),(7,(.t (boo true)))] [] []
def zdi_x0_0 (r1:Int)(a0:zat)(a1:zaf)(Q:Int→Prop)(y:Int):Prop:=Lf .ret (zdi_q0_0 r1 a0 a1) y (Q y)
def zdi_q0_1 (r1:Int)(a0:zat)(a1:zaf)(y:Unit):St:=mkSt [] [] []
def zdi_x0_1 (r1:Int)(a0:zat)(a1:zaf)(Q:Unit→Prop)(y:Unit):Prop:=Lf (.exit 0) (zdi_q0_1 r1 a0 a1) y (Q y)
def zdi_L0 (r1:Int)(a0:zat)(a1:zaf)(Q0_:Int→Prop)(Q1_:Unit→Prop)(s0_0:Int):Prop:=LW Tryz.prog 37 (loopAt Tryz.f103 0) (Outs.K (.cons .ret [.keep [6,7] []] (zdi_q0_0 r1 a0 a1) Q0_ (.one (.exit 0) [.keep [] []] (zdi_q0_1 r1 a0 a1) Q1_))) (zdi_s0 r1 a0 a1 s0_0)
def zdi_w0 (r1:Int)(a0:zat)(a1:zaf)(X_:Int→Prop)(Q0_:Int→Prop)(Q1_:Unit→Prop)(s0_0:Int):Prop:=Br (decide (s0_0<(lenM zbs.enc a0.Cuts))) (∃xa1:zbs,Got zbs.enc a0.Cuts s0_0 xa1 (Br (decide (r1≤xa1.Days)) (Br (decide (a1.Rating≤xa1.Rating)) (zdi_x0_0 r1 a0 a1 Q0_ xa1.Cut) (Num .i64 (s0_0+1) (X_ (s0_0+1)))) (Num .i64 (s0_0+1) (X_ (s0_0+1))))) (zdi_x0_1 r1 a0 a1 Q1_ ())
def zdi_h0 (r1:Int)(a0:zat)(a1:zaf)(s0_0:Int):HT (Int ⊕ Unit) := .both 20 (.ex (zbs) fun xa1 => .op 6 0 (.row (s0_0:Int).toNat (zbs.enc xa1)) (.bo 7 4 (.both 33 (.ret [.keep [6,7] []] (.inl xa1.Cut)) (.op 9 0 (.nw) (.round [.keep [4,8,17,18,19] [4]]))) (.op 9 0 (.nw) (.round [.keep [4,8,17,18,19] [4]])))) (.ret [.keep [] []] (.inr ()))
theorem zdi_l0 {r1 a0 a1 Q0_ Q1_ s0_0}(h:zdi_w0 r1 a0 a1 (zdi_L0 r1 a0 a1 Q0_ Q1_) Q0_ Q1_ s0_0):zdi_L0 r1 a0 a1 Q0_ Q1_ s0_0:=Qac _ (zdi_h0 r1 a0 a1 s0_0) h (by kernel_rfl)
def zdi_R (v:Int×Bool):A:=(.tup [(.t (i64 v.1)),(.t (boo v.2))])
def zdi_O (v:Int×Bool):List (Nat×O):=[]
def zdi_e (Q:(Int×Bool)→Prop)(v:Int×Bool):Prop:=Rt (zdi_R) (zdi_O) v (Q v)
def zdi_r (a0:zat)(a1:zaf)(a2:Int)(v:Int×Bool):Prop:=Con Tryz.prog 103 [(.agg [(.t (i64 a0.ID)),(.t (i64 a0.Version)),(.t (str a0.Currency)),(.t (i64 a0.Rating)),(.t (i64 a0.Least)),(.t (i64 a0.Most)),(.t (.sl 3 ((a0.Cuts:List zbs).map zbs.enc))),(.t (i64 a0.Issuer)),(.t (i64 a0.Asset)),(.t (.sl 1 ((a0.Barred:List Int).map eN)))]),(.agg [(.t (str a1.ISIN)),(.t (i64 a1.Issuer)),(.t (i64 a1.Rating)),(.t (i64 a1.Maturity)),(.t (str a1.Currency))]),(.t (i64 a2))] [] (fun r_ o_=>r_=zdi_R v∧o_=zdi_O v)
def zdi_w (a0:zat)(a1:zaf)(a2:Int)(Q_:(Int×Bool)→Prop):Prop:=∃r1:Int,(zge_r a1 a2 r1)∧(Br (decide (r1<0)) (zdi_e Q_ (0,false)) (zdi_L0 r1 a0 a1 (fun(y2:Int)=>zdi_e Q_ (y2,true)) (fun(y2:Unit)=>zdi_e Q_ (0,false)) 0))
def zdi_h (a0:zat)(a1:zaf)(a2:Int):HT (Int×Bool) := .ex (Int) fun r1 => .op 1 2 (.call [] (.t (i64 r1)) []) (.both 15 (.fin [] [] (0,false)) (.loop [.keep [4,8,17,18,19] [4]] (.out (Int) .ret [.keep [6,7] []] (zdi_q0_0 r1 a0 a1) (fun y2 => .fin [] [] (y2,true)) (.out (Unit) (.exit 0) [.keep [] []] (zdi_q0_1 r1 a0 a1) (fun y2 => .fin [] [] (0,false)) (.nil)))))
theorem zdi_of {a0 a1 a2 v}(h:zdi_w a0 a1 a2 (fun v_=>v_=v)):zdi_r a0 a1 a2 v:=Qaa Tryz.call103 Tryz.func103 [] (zdi_h a0 a1 a2) h
def zfg_R (a0:zaw)(v:zaa×Int):A:=(.tup [(.agg [(.t (str v.1.Lot.ISIN)),(.t (i64 v.1.Lot.Qty)),(.t (str v.1.Asset.ISIN)),(.t (i64 v.1.Asset.Issuer)),(.t (i64 v.1.Asset.Rating)),(.t (i64 v.1.Asset.Maturity)),(.t (str v.1.Asset.Currency)),(.t (i64 v.1.Price)),(.t (i64 v.1.Cut))]),(.t (i64 v.2))])
def zfg_O (a0:zaw)(v:zaa×Int):List (Nat×O):=[(700,(.box [(.ref 701),(.ref 702),(.t (boo a0.made))])),(701,(.row 5 ((a0.l:List zaf).map zaf.enc))),(702,(.row 1 ((a0.prices:List Int).map eN)))]
def zfg_e (a0:zaw)(Q:(zaa×Int)→Prop)(v:zaa×Int):Prop:=Rt (zfg_R a0) (zfg_O a0) v (Q v)
def zfg_r (a0:zaw)(a1:zat)(a2:zab)(a3:Int)(v:zaa×Int):Prop:=Con Tryz.prog 57 [(.at 700 0),(.agg [(.t (i64 a1.ID)),(.t (i64 a1.Version)),(.t (str a1.Currency)),(.t (i64 a1.Rating)),(.t (i64 a1.Least)),(.t (i64 a1.Most)),(.t (.sl 3 ((a1.Cuts:List zbs).map zbs.enc))),(.t (i64 a1.Issuer)),(.t (i64 a1.Asset)),(.t (.sl 1 ((a1.Barred:List Int).map eN)))]),(.agg [(.t (str a2.ISIN)),(.t (i64 a2.Qty))]),(.t (i64 a3))] [(700,(.box [(.ref 701),(.ref 702),(.t (boo a0.made))])),(701,(.row 5 ((a0.l:List zaf).map zaf.enc))),(702,(.row 1 ((a0.prices:List Int).map eN)))] (fun r_ o_=>r_=zfg_R a0 v∧o_=zfg_O a0 v)
def zfg_w (a0:zaw)(a1:zat)(a2:zab)(a3:Int)(Q_:(zaa×Int)→Prop):Prop:=∃r1:zaf×Bool,(zfn_r a0 a2.ISIN r1)∧(Br (!r1.2) (zfg_e a0 Q_ ((⟨(⟨ByteArray.empty,0⟩:zab),(⟨ByteArray.empty,0,0,0,ByteArray.empty⟩:zaf),0,0⟩:zaa),21)) (∃r2:Int×Bool,(zfc_r a0 a2.ISIN r2)∧(Br (!r2.2) (zfg_e a0 Q_ ((⟨(⟨ByteArray.empty,0⟩:zab),(⟨ByteArray.empty,0,0,0,ByteArray.empty⟩:zaf),0,0⟩:zaa),31)) (∃r3:Int×Bool,(zdi_r a1 r1.1 a3 r3)∧(Br (!r3.2) (zfg_e a0 Q_ ((⟨(⟨ByteArray.empty,0⟩:zab),(⟨ByteArray.empty,0,0,0,ByteArray.empty⟩:zaf),0,0⟩:zaa),23)) (Br (decide (a2.Qty<0)) (zfg_e a0 Q_ ((⟨(⟨ByteArray.empty,0⟩:zab),(⟨ByteArray.empty,0,0,0,ByteArray.empty⟩:zaf),0,0⟩:zaa),1)) (Br (decide (a2.Qty>1125899906842624)) (zfg_e a0 Q_ ((⟨(⟨ByteArray.empty,0⟩:zab),(⟨ByteArray.empty,0,0,0,ByteArray.empty⟩:zaf),0,0⟩:zaa),1)) (zfg_e a0 Q_ ((⟨a2,r1.1,r2.1,r3.1⟩:zaa),0)))))))))
def zfg_h (a0:zaw)(a1:zat)(a2:zab)(a3:Int):HT (zaa×Int) := .ex (zaf×Bool) fun r1 => .op 1 3 (.callR [] [700,701,702] [700,701,702] (.tup [(.agg [(.t (str r1.1.ISIN)),(.t (i64 r1.1.Issuer)),(.t (i64 r1.1.Rating)),(.t (i64 r1.1.Maturity)),(.t (str r1.1.Currency))]),(.t (boo r1.2))]) []) (.both 22 (.fin [] [] ((⟨(⟨ByteArray.empty,0⟩:zab),(⟨ByteArray.empty,0,0,0,ByteArray.empty⟩:zaf),0,0⟩:zaa),21)) (.ex (Int×Bool) fun r2 => .op 4 3 (.callR [] [700,701,702] [700,701,702] (.tup [(.t (i64 r2.1)),(.t (boo r2.2))]) []) (.both 32 (.fin [] [] ((⟨(⟨ByteArray.empty,0⟩:zab),(⟨ByteArray.empty,0,0,0,ByteArray.empty⟩:zaf),0,0⟩:zaa),31)) (.ex (Int×Bool) fun r3 => .op 7 3 (.call [] (.tup [(.t (i64 r3.1)),(.t (boo r3.2))]) []) (.both 42 (.fin [] [] ((⟨(⟨ByteArray.empty,0⟩:zab),(⟨ByteArray.empty,0,0,0,ByteArray.empty⟩:zaf),0,0⟩:zaa),23)) (.bo 10 3 (.fin [] [] ((⟨(⟨ByteArray.empty,0⟩:zab),(⟨ByteArray.empty,0,0,0,ByteArray.empty⟩:zaf),0,0⟩:zaa),1)) (.both 51 (.fin [] [] ((⟨(⟨ByteArray.empty,0⟩:zab),(⟨ByteArray.empty,0,0,0,ByteArray.empty⟩:zaf),0,0⟩:zaa),1)) (.fin [] [] ((⟨a2,r1.1,r2.1,r3.1⟩:zaa),0)))))))))
theorem zfg_of {a0 a1 a2 a3 v}(h:zfg_w a0 a1 a2 a3 (fun v_=>v_=v)):zfg_r a0 a1 a2 a3 v:=Qaa Tryz.call57 Tryz.func57 [700,701,702] (zfg_h a0 a1 a2 a3) h
def zfv_R (v:Bool):A:=(.t (boo v))
def zfv_O (v:Bool):List (Nat×O):=[]
def zfv_e (Q:Bool→Prop)(v:Bool):Prop:=Rt (zfv_R) (zfv_O) v (Q v)
def zfv_r (a0:Int)(a1:Int)(v:Bool):Prop:=Con Tryz.prog 189 [(.t (i64 a0)),(.t (i64 a1))] [] (fun r_ o_=>r_=zfv_R v∧o_=zfv_O v)
def zfv_w (a0:Int)(a1:Int)(Q_:Bool→Prop):Prop:=∃r1:Bool,(zfl_r a0 r1)∧(Br r1 (∃r2:Bool,(zfl_r a1 r2)∧(Br (!r2) (zfv_e Q_ true) (zfv_e Q_ (decide (a0<a1))))) (zfv_e Q_ (decide (a0<a1))))
def zfv_h (a0:Int)(a1:Int):HT Bool := .ex (Bool) fun r1 => .op 1 1 (.call [] (.t (boo r1)) []) (.bo 1 2 (.ex (Bool) fun r2 => .op 1 4 (.call [] (.t (boo r2)) []) (.bo 1 7 (.fin [] [] true) (.fin [] [] (decide (a0<a1))))) (.fin [] [] (decide (a0<a1))))
theorem zfv_of {a0 a1 v}(h:zfv_w a0 a1 (fun v_=>v_=v)):zfv_r a0 a1 v:=Qaa Tryz.call189 Tryz.func189 [] (zfv_h a0 a1) h
def zff_R (v:Bool):A:=(.t (boo v))
def zff_O (v:Bool):List (Nat×O):=[]
def zff_e (Q:Bool→Prop)(v:Bool):Prop:=Rt (zff_R) (zff_O) v (Q v)
def zff_r (a0:Int)(v:Bool):Prop:=Con Tryz.prog 190 [(.t (i64 a0))] [] (fun r_ o_=>r_=zff_R v∧o_=zff_O v)
def zff_w (a0:Int)(Q_:Bool→Prop):Prop:=zff_e Q_ (a0 != a0)
def zff_h (a0:Int):HT Bool := .fin [] [] (a0 != a0)
theorem zff_of {a0 v}(h:zff_w a0 (fun v_=>v_=v)):zff_r a0 v:=Qaa Tryz.call190 Tryz.func190 [] (zff_h a0) h
def zbc_s0 (a0:(List Int))(a1:Int)(s0_0:Int)(s0_1:Int):St:=mkSt [(0,(.t (.sl 1 ((a0:List Int).map eN)))),(1,(.t (i64 a1))),(6,(.t (i64 (lenM eN a0)))),(7,(.t (i64 s0_0))),(8,(.t (i64 s0_1)))] [] []
def zbc_q0_0 (a0:(List Int))(a1:Int)(y:Int):St:=mkSt [(0,(.t (.sl 1 ((a0:List Int).map eN)))),(1,(.t (i64 a1))),(6,(.t (i64 (lenM eN a0)))),(7,(.t (i64 y)))] [] []
def zbc_x0_0 (a0:(List Int))(a1:Int)(Q:Int→Prop)(y:Int):Prop:=Lf (.exit 0) (zbc_q0_0 a0 a1) y (Q y)
def zbc_L0 (a0:(List Int))(a1:Int)(Q0_:Int→Prop)(s0_0:Int)(s0_1:Int):Prop:=LW Tryz.prog 54 (loopAt Tryz.f155 0) (Outs.K (.one (.exit 0) [.keep [0,1,6,7] []] (zbc_q0_0 a0 a1) Q0_)) (zbc_s0 a0 a1 s0_0 s0_1)
def zbc_w0 (a0:(List Int))(a1:Int)(X_:Int→Int→Prop)(Q0_:Int→Prop)(s0_0:Int)(s0_1:Int):Prop:=Br (decide (s0_0<s0_1)) (Num .i64 (s0_0+s0_1) (∃xa1:Int,Got eN a0 (IntKind.wrap .i64 (Int.fdiv (IntKind.wrap .u64 (s0_0+s0_1)) 2)) xa1 (∃ra2:Bool,(zfv_r xa1 a1 ra2)∧(Br ra2 (Num .i64 ((IntKind.wrap .i64 (Int.fdiv (IntKind.wrap .u64 (s0_0+s0_1)) 2))+1) (X_ ((IntKind.wrap .i64 (Int.fdiv (IntKind.wrap .u64 (s0_0+s0_1)) 2))+1) s0_1)) (X_ s0_0 (IntKind.wrap .i64 (Int.fdiv (IntKind.wrap .u64 (s0_0+s0_1)) 2))))))) (zbc_x0_0 a0 a1 Q0_ s0_0)
def zbc_h0 (a0:(List Int))(a1:Int)(s0_0:Int)(s0_1:Int):HT Int := .both 15 (.op 4 2 (.nw) (.ex (Int) fun xa1 => .op 5 2 (.row ((IntKind.wrap .i64 (Int.fdiv (IntKind.wrap .u64 (s0_0+s0_1)) 2)):Int).toNat (eN xa1)) (.ex (Bool) fun ra2 => .op 5 5 (.call [] (.t (boo ra2)) []) (.both 27 (.op 6 1 (.nw) (.round [.keep [0,1,6,7,8] []])) (.round [.keep [0,1,6,7,8] []]))))) (.ret [.keep [0,1,6,7] []] s0_0)
theorem zbc_l0 {a0 a1 Q0_ s0_0 s0_1}(h:zbc_w0 a0 a1 (zbc_L0 a0 a1 Q0_) Q0_ s0_0 s0_1):zbc_L0 a0 a1 Q0_ s0_0 s0_1:=Qac _ (zbc_h0 a0 a1 s0_0 s0_1) h (by kernel_rfl)
def zbc_R (v:Int×Bool):A:=(.tup [(.t (i64 v.1)),(.t (boo v.2))])
def zbc_O (v:Int×Bool):List (Nat×O):=[]
def zbc_e (Q:(Int×Bool)→Prop)(v:Int×Bool):Prop:=Rt (zbc_R) (zbc_O) v (Q v)
def zbc_r (a0:(List Int))(a1:Int)(v:Int×Bool):Prop:=Con Tryz.prog 155 [(.t (.sl 1 ((a0:List Int).map eN))),(.t (i64 a1))] [] (fun r_ o_=>r_=zbc_R v∧o_=zbc_O v)
def zbc_w (a0:(List Int))(a1:Int)(Q_:(Int×Bool)→Prop):Prop:=zbc_L0 a0 a1 (fun(y1:Int)=>Br (decide (y1<(lenM eN a0))) (∃x2:Int,Got eN a0 y1 x2 (Br (x2==a1) (zbc_e Q_ (y1,true)) (Got eN a0 y1 x2 (∃r3:Bool,(zff_r x2 r3)∧(Br r3 (∃r4:Bool,(zff_r a1 r4)∧(zbc_e Q_ (y1,r4))) (zbc_e Q_ (y1,false))))))) (zbc_e Q_ (y1,false))) 0 (lenM eN a0)
def zbc_h (a0:(List Int))(a1:Int):HT (Int×Bool) := .loop [.keep [0,1,6,7,8] []] (.out (Int) (.exit 0) [.keep [0,1,6,7] []] (zbc_q0_0 a0 a1) (fun y1 => .bo 8 4 (.ex (Int) fun x2 => .op 8 7 (.row (y1:Int).toNat (eN x2)) (.bo 8 11 (.fin [] [] (y1,true)) (.op 8 14 (.row (y1:Int).toNat (eN x2)) (.ex (Bool) fun r3 => .op 8 16 (.call [] (.t (boo r3)) []) (.bo 8 17 (.ex (Bool) fun r4 => .op 8 19 (.call [] (.t (boo r4)) []) (.fin [] [] (y1,r4))) (.fin [] [] (y1,false))))))) (.fin [] [] (y1,false))) (.nil))
theorem zbc_of {a0 a1 v}(h:zbc_w a0 a1 (fun v_=>v_=v)):zbc_r a0 a1 v:=Qaa Tryz.call155 Tryz.func155 [] (zbc_h a0 a1) h
def zfw_R (v:Int):A:=(.t (i64 v))
def zfw_O (v:Int):List (Nat×O):=[]
def zfw_e (Q:Int→Prop)(v:Int):Prop:=Rt (zfw_R) (zfw_O) v (Q v)
def zfw_r (a0:zat)(a1:zaf)(a2:Int)(v:Int):Prop:=Con Tryz.prog 104 [(.agg [(.t (i64 a0.ID)),(.t (i64 a0.Version)),(.t (str a0.Currency)),(.t (i64 a0.Rating)),(.t (i64 a0.Least)),(.t (i64 a0.Most)),(.t (.sl 3 ((a0.Cuts:List zbs).map zbs.enc))),(.t (i64 a0.Issuer)),(.t (i64 a0.Asset)),(.t (.sl 1 ((a0.Barred:List Int).map eN)))]),(.agg [(.t (str a1.ISIN)),(.t (i64 a1.Issuer)),(.t (i64 a1.Rating)),(.t (i64 a1.Maturity)),(.t (str a1.Currency))]),(.t (i64 a2))] [] (fun r_ o_=>r_=zfw_R v∧o_=zfw_O v)
def zfw_w (a0:zat)(a1:zaf)(a2:Int)(Q_:Int→Prop):Prop:=∃r1:Int,(zge_r a1 a2 r1)∧(∃r2:Int×Bool,(zbc_r a0.Barred a1.Issuer r2)∧(Br (!strEq a1.Currency a0.Currency) (zfw_e Q_ 1) (Br (decide (a1.Rating>a0.Rating)) (zfw_e Q_ 2) (Br (decide (r1<1)) (zfw_e Q_ 3) (Br (decide (r1<a0.Least)) (zfw_e Q_ 3) (Br (decide (r1>a0.Most)) (zfw_e Q_ 4) (Br r2.2 (zfw_e Q_ 5) (zfw_e Q_ 0))))))))
def zfw_h (a0:zat)(a1:zaf)(a2:Int):HT Int := .ex (Int) fun r1 => .op 1 2 (.call [] (.t (i64 r1)) []) (.ex (Int×Bool) fun r2 => .op 2 4 (.call [] (.tup [(.t (i64 r2.1)),(.t (boo r2.2))]) []) (.both 21 (.fin [] [] 1) (.both 27 (.fin [] [] 2) (.bo 7 2 (.fin [] [] 3) (.both 33 (.fin [] [] 3) (.both 42 (.fin [] [] 4) (.both 47 (.fin [] [] 5) (.fin [] [] 0))))))))
theorem zfw_of {a0 a1 a2 v}(h:zfw_w a0 a1 a2 (fun v_=>v_=v)):zfw_r a0 a1 a2 v:=Qaa Tryz.call104 Tryz.func104 [] (zfw_h a0 a1 a2) h
def zgi_R (v:Bool):A:=(.t (boo v))
def zgi_O (v:Bool):List (Nat×O):=[]
def zgi_e (Q:Bool→Prop)(v:Bool):Prop:=Rt (zgi_R) (zgi_O) v (Q v)
def zgi_r (a0:zat)(a1:zaf)(a2:Int)(v:Bool):Prop:=Con Tryz.prog 58 [(.agg [(.t (i64 a0.ID)),(.t (i64 a0.Version)),(.t (str a0.Currency)),(.t (i64 a0.Rating)),(.t (i64 a0.Least)),(.t (i64 a0.Most)),(.t (.sl 3 ((a0.Cuts:List zbs).map zbs.enc))),(.t (i64 a0.Issuer)),(.t (i64 a0.Asset)),(.t (.sl 1 ((a0.Barred:List Int).map eN)))]),(.agg [(.t (str a1.ISIN)),(.t (i64 a1.Issuer)),(.t (i64 a1.Rating)),(.t (i64 a1.Maturity)),(.t (str a1.Currency))]),(.t (i64 a2))] [] (fun r_ o_=>r_=zgi_R v∧o_=zgi_O v)
def zgi_w (a0:zat)(a1:zaf)(a2:Int)(Q_:Bool→Prop):Prop:=∃r1:Int,(zfw_r a0 a1 a2 r1)∧(zgi_e Q_ (r1==0))
def zgi_h (a0:zat)(a1:zaf)(a2:Int):HT Bool := .ex (Int) fun r1 => .op 1 3 (.call [] (.t (i64 r1)) []) (.fin [] [] (r1==0))
theorem zgi_of {a0 a1 a2 v}(h:zgi_w a0 a1 a2 (fun v_=>v_=v)):zgi_r a0 a1 a2 v:=Qaa Tryz.call58 Tryz.func58 [] (zgi_h a0 a1 a2) h
def zcx_s0 (a3:Int)(a2:(List zab))(a1:zat)(a0:zaw)(s0_0:Int)(s0_1:(List zab))(s0_2:(List zaa)):St:=mkSt [(0,(.at 700 0)),(3,(.t (i64 a3))),(5,(.at 5 0)),(10,(.ref 47)),(11,(.ref 43)),(16,(.t (.sl 2 ((a2:List zab).map zab.enc)))),(17,(.t (i64 (lenM zab.enc a2)))),(18,(.t (i64 s0_0)))] [(5,(.box [(.t (i64 a1.ID)),(.t (i64 a1.Version)),(.t (str a1.Currency)),(.t (i64 a1.Rating)),(.t (i64 a1.Least)),(.t (i64 a1.Most)),(.t (.sl 3 ((a1.Cuts:List zbs).map zbs.enc))),(.t (i64 a1.Issuer)),(.t (i64 a1.Asset)),(.t (.sl 1 ((a1.Barred:List Int).map eN)))])),(43,(.row 2 ((s0_1:List zab).map zab.enc))),(47,(.row 9 ((s0_2:List zaa).map zaa.enc))),(700,(.box [(.ref 701),(.ref 702),(.t (boo a0.made))])),(701,(.row 5 ((a0.l:List zaf).map zaf.enc))),(702,(.row 1 ((a0.prices:List Int).map eN)))] [700,701,702]
def zcx_q0_0 (a3:Int)(a2:(List zab))(a1:zat)(a0:zaw)(y:(List zab)×(List zaa)):St:=mkSt [(10,(.ref 47)),(11,(.ref 43))] [(43,(.row 2 ((y.1:List zab).map zab.enc))),(47,(.row 9 ((y.2:List zaa).map zaa.enc))),(700,(.box [(.ref 701),(.ref 702),(.t (boo a0.made))])),(701,(.row 5 ((a0.l:List zaf).map zaf.enc))),(702,(.row 1 ((a0.prices:List Int).map eN)))] [700,701,702]
def zcx_x0_0 (a3:Int)(a2:(List zab))(a1:zat)(a0:zaw)(Q:((List zab)×(List zaa))→Prop)(y:(List zab)×(List zaa)):Prop:=Lf (.exit 0) (zcx_q0_0 a3 a2 a1 a0) y (Q y)
def zcx_L0 (a3:Int)(a2:(List zab))(a1:zat)(a0:zaw)(Q0_:((List zab)×(List zaa))→Prop)(s0_0:Int)(s0_1:(List zab))(s0_2:(List zaa)):Prop:=LW Tryz.prog 52 (loopAt Tryz.f30 0) (Outs.K (.one (.exit 0) [.keep [10,11] [43,47,700,701,702]] (zcx_q0_0 a3 a2 a1 a0) Q0_)) (zcx_s0 a3 a2 a1 a0 s0_0 s0_1 s0_2)
def zcx_w0 (a3:Int)(a2:(List zab))(a1:zat)(a0:zaw)(X_:Int→(List zab)→(List zaa)→Prop)(Q0_:((List zab)×(List zaa))→Prop)(s0_0:Int)(s0_1:(List zab))(s0_2:(List zaa)):Prop:=Br (decide (s0_0<(lenM zab.enc a2))) (∃xa1:zab,Got zab.enc a2 s0_0 xa1 (∃ra2:zaa×Int,(zfg_r a0 a1 xa1 a3 ra2)∧(Br (ra2.2 != 0) (App2 24 zab.enc s0_1 [xa1] (Num .i64 (s0_0+1) (X_ (s0_0+1) (s0_1++[xa1]) s0_2))) (∃ra3:Bool,(zgi_r a1 ra2.1.Asset a3 ra3)∧(Br (!ra3) (App2 24 zab.enc s0_1 [xa1] (Num .i64 (s0_0+1) (X_ (s0_0+1) (s0_1++[xa1]) s0_2))) (App2 96 zaa.enc s0_2 [ra2.1] (Num .i64 (s0_0+1) (X_ (s0_0+1) s0_1 (s0_2++[ra2.1]))))))))) (zcx_x0_0 a3 a2 a1 a0 Q0_ (s0_1,s0_2))
def zcx_h0 (a3:Int)(a2:(List zab))(a1:zat)(a0:zaw)(s0_0:Int)(s0_1:(List zab))(s0_2:(List zaa)):HT ((List zab)×(List zaa)) := .both 19 (.ex (zab) fun xa1 => .op 5 0 (.row (s0_0:Int).toNat (zab.enc xa1)) (.ex (zaa×Int) fun ra2 => .op 6 4 (.callR [] [700,701,702] [700,701,702] (.tup [(.agg [(.t (str ra2.1.Lot.ISIN)),(.t (i64 ra2.1.Lot.Qty)),(.t (str ra2.1.Asset.ISIN)),(.t (i64 ra2.1.Asset.Issuer)),(.t (i64 ra2.1.Asset.Rating)),(.t (i64 ra2.1.Asset.Maturity)),(.t (str ra2.1.Asset.Currency)),(.t (i64 ra2.1.Price)),(.t (i64 ra2.1.Cut))]),(.t (i64 ra2.2))]) []) (.bo 7 2 (.op 8 3 (.no) (.rw 43 (((s0_1++[xa1]):List zab).map zab.enc) (.op 10 0 (.nw) (.round [.keep [0,3,5,10,11,16,17,18] [5,43,47,700,701,702]])))) (.ex (Bool) fun ra3 => .op 7 7 (.call [] (.t (boo ra3)) []) (.both 39 (.op 8 3 (.no) (.rw 43 (((s0_1++[xa1]):List zab).map zab.enc) (.op 10 0 (.nw) (.round [.keep [0,3,5,10,11,16,17,18] [5,43,47,700,701,702]])))) (.op 9 3 (.no) (.rw 47 (((s0_2++[ra2.1]):List zaa).map zaa.enc) (.op 10 0 (.nw) (.round [.keep [0,3,5,10,11,16,17,18] [5,43,47,700,701,702]]))))))))) (.ret [.keep [10,11] [43,47,700,701,702]] (s0_1,s0_2))
theorem zcx_l0 {a3 a2 a1 a0 Q0_ s0_0 s0_1 s0_2}(h:zcx_w0 a3 a2 a1 a0 (zcx_L0 a3 a2 a1 a0 Q0_) Q0_ s0_0 s0_1 s0_2):zcx_L0 a3 a2 a1 a0 Q0_ s0_0 s0_1 s0_2:=Qac _ (zcx_h0 a3 a2 a1 a0 s0_0 s0_1 s0_2) h (by kernel_rfl)
def zcx_R (a0:zaw)(v:(List zaa)×(List zab)):A:=(.tup [(.t (.sl 9 ((v.1:List zaa).map zaa.enc))),(.t (.sl 2 ((v.2:List zab).map zab.enc)))])
def zcx_O (a0:zaw)(v:(List zaa)×(List zab)):List (Nat×O):=[(700,(.box [(.ref 701),(.ref 702),(.t (boo a0.made))])),(701,(.row 5 ((a0.l:List zaf).map zaf.enc))),(702,(.row 1 ((a0.prices:List Int).map eN)))]
def zcx_e (a0:zaw)(Q:((List zaa)×(List zab))→Prop)(v:(List zaa)×(List zab)):Prop:=Rt (zcx_R a0) (zcx_O a0) v (Q v)
def zcx_r (a0:zaw)(a1:zat)(a2:(List zab))(a3:Int)(v:(List zaa)×(List zab)):Prop:=Con Tryz.prog 30 [(.at 700 0),(.agg [(.t (i64 a1.ID)),(.t (i64 a1.Version)),(.t (str a1.Currency)),(.t (i64 a1.Rating)),(.t (i64 a1.Least)),(.t (i64 a1.Most)),(.t (.sl 3 ((a1.Cuts:List zbs).map zbs.enc))),(.t (i64 a1.Issuer)),(.t (i64 a1.Asset)),(.t (.sl 1 ((a1.Barred:List Int).map eN)))]),(.t (.sl 2 ((a2:List zab).map zab.enc))),(.t (i64 a3))] [(700,(.box [(.ref 701),(.ref 702),(.t (boo a0.made))])),(701,(.row 5 ((a0.l:List zaf).map zaf.enc))),(702,(.row 1 ((a0.prices:List Int).map eN)))] (fun r_ o_=>r_=zcx_R a0 v∧o_=zcx_O a0 v)
def zcx_w (a0:zaw)(a1:zat)(a2:(List zab))(a3:Int)(Q_:((List zaa)×(List zab))→Prop):Prop:=zcx_L0 a3 a2 a1 a0 (fun(y1:(List zab)×(List zaa))=>∃r2:(List zaa),(zgk_r y1.2 r2)∧(zcx_e a0 Q_ (r2,y1.1))) 0 [] []
def zcx_h (a0:zaw)(a1:zat)(a2:(List zab))(a3:Int):HT ((List zaa)×(List zab)) := .loop [.own 10 47 9,.own 11 43 2,.keep [0,3,5,10,11,16,17,18] [5,43,47,700,701,702]] (.out ((List zab)×(List zaa)) (.exit 0) [.keep [10,11] [43,47,700,701,702]] (zcx_q0_0 a3 a2 a1 a0) (fun y1 => .reg 11 [.frz 47] [] (.ex ((List zaa)) fun r2 => .op 11 1 (.call [] (.t (.sl 9 ((r2:List zaa).map zaa.enc))) []) (.fin [] [] (r2,y1.1)))) (.nil))
theorem zcx_of {a0 a1 a2 a3 v}(h:zcx_w a0 a1 a2 a3 (fun v_=>v_=v)):zcx_r a0 a1 a2 a3 v:=Qaa Tryz.call30 Tryz.func30 [700,701,702] (zcx_h a0 a1 a2 a3) h
def zbx_s0 (a0:(List zad))(a1:ByteArray)(s0_0:Int):St:=mkSt [(0,(.t (.sl 6 ((a0:List zad).map zad.enc)))),(1,(.t (str a1))),(5,(.t (i64 s0_0)))] [] []
def zbx_q0_0 (a0:(List zad))(a1:ByteArray)(y:Int):St:=mkSt [(4,(.t (i64 y)))] [] []
def zbx_x0_0 (a0:(List zad))(a1:ByteArray)(Q:Int→Prop)(y:Int):Prop:=Lf .ret (zbx_q0_0 a0 a1) y (Q y)
def zbx_q0_1 (a0:(List zad))(a1:ByteArray)(y:Unit):St:=mkSt [] [] []
def zbx_x0_1 (a0:(List zad))(a1:ByteArray)(Q:Unit→Prop)(y:Unit):Prop:=Lf (.exit 0) (zbx_q0_1 a0 a1) y (Q y)
def zbx_L0 (a0:(List zad))(a1:ByteArray)(Q0_:Int→Prop)(Q1_:Unit→Prop)(s0_0:Int):Prop:=LW Tryz.prog 21 (loopAt Tryz.f56 0) (Outs.K (.cons .ret [.keep [4] []] (zbx_q0_0 a0 a1) Q0_ (.one (.exit 0) [.keep [] []] (zbx_q0_1 a0 a1) Q1_))) (zbx_s0 a0 a1 s0_0)
def zbx_w0 (a0:(List zad))(a1:ByteArray)(X_:Int→Prop)(Q0_:Int→Prop)(Q1_:Unit→Prop)(s0_0:Int):Prop:=Br (decide (s0_0<(lenM zad.enc a0))) (∃xa1:zad,Got zad.enc a0 s0_0 xa1 (Br (strEq xa1.A.ISIN a1) (zbx_x0_0 a0 a1 Q0_ s0_0) (Num .i64 (s0_0+1) (X_ (s0_0+1))))) (zbx_x0_1 a0 a1 Q1_ ())
def zbx_h0 (a0:(List zad))(a1:ByteArray)(s0_0:Int):HT (Int ⊕ Unit) := .both 9 (.ex (zad) fun xa1 => .op 4 2 (.row (s0_0:Int).toNat (zad.enc xa1)) (.both 19 (.ret [.keep [4] []] (.inl s0_0)) (.op 3 1 (.nw) (.round [.keep [0,1,5] []])))) (.ret [.keep [] []] (.inr ()))
theorem zbx_l0 {a0 a1 Q0_ Q1_ s0_0}(h:zbx_w0 a0 a1 (zbx_L0 a0 a1 Q0_ Q1_) Q0_ Q1_ s0_0):zbx_L0 a0 a1 Q0_ Q1_ s0_0:=Qac _ (zbx_h0 a0 a1 s0_0) h (by kernel_rfl)
def zbx_R (v:Int):A:=(.t (i64 v))
def zbx_O (v:Int):List (Nat×O):=[]
def zbx_e (Q:Int→Prop)(v:Int):Prop:=Rt (zbx_R) (zbx_O) v (Q v)
def zbx_r (a0:(List zad))(a1:ByteArray)(v:Int):Prop:=Con Tryz.prog 56 [(.t (.sl 6 ((a0:List zad).map zad.enc))),(.t (str a1))] [] (fun r_ o_=>r_=zbx_R v∧o_=zbx_O v)
def zbx_w (a0:(List zad))(a1:ByteArray)(Q_:Int→Prop):Prop:=zbx_L0 a0 a1 (fun(y1:Int)=>zbx_e Q_ y1) (fun(y1:Unit)=>zbx_e Q_ (-1)) 0
def zbx_h (a0:(List zad))(a1:ByteArray):HT Int := .loop [.keep [0,1,5] []] (.out (Int) .ret [.keep [4] []] (zbx_q0_0 a0 a1) (fun y1 => .fin [] [] y1) (.out (Unit) (.exit 0) [.keep [] []] (zbx_q0_1 a0 a1) (fun y1 => .fin [] [] (-1)) (.nil)))
theorem zbx_of {a0 a1 v}(h:zbx_w a0 a1 (fun v_=>v_=v)):zbx_r a0 a1 v:=Qaa Tryz.call56 Tryz.func56 [] (zbx_h a0 a1) h
def zeo_R (v:Int):A:=(.t (i64 v))
def zeo_O (v:Int):List (Nat×O):=[]
def zeo_e (Q:Int→Prop)(v:Int):Prop:=Rt (zeo_R) (zeo_O) v (Q v)
def zeo_r (a0:zaf)(a1:Int)(v:Int):Prop:=Con Tryz.prog 126 [(.agg [(.t (str a0.ISIN)),(.t (i64 a0.Issuer)),(.t (i64 a0.Rating)),(.t (i64 a0.Maturity)),(.t (str a0.Currency))]),(.t (i64 a1))] [] (fun r_ o_=>r_=zeo_R v∧o_=zeo_O v)
def zeo_w (a0:zaf)(a1:Int)(Q_:Int→Prop):Prop:=Br (decide (a1<0)) (zeo_e Q_ (-1)) (Br (decide (a1>200000)) (zeo_e Q_ (-1)) (Num .i64 (a0.Maturity-a1) (zeo_e Q_ (a0.Maturity-a1))))
def zeo_h (a0:zaf)(a1:Int):HT Int := .bo 1 2 (.fin [] [] (-1)) (.both 10 (.fin [] [] (-1)) (.op 3 3 (.nw) (.fin [] [] (a0.Maturity-a1))))
theorem zeo_of {a0 a1 v}(h:zeo_w a0 a1 (fun v_=>v_=v)):zeo_r a0 a1 v:=Qaa Tryz.call126 Tryz.func126 [] (zeo_h a0 a1) h
def zcl_s0 (r1:Int)(a0:zat)(a1:zaf)(s0_0:Int):St:=mkSt [(3,(.at 3 0)),(4,(.at 4 0)),(8,(.t (i64 r1))),(9,(.t (i64 s0_0)))] [(3,(.box [(.t (i64 a0.ID)),(.t (i64 a0.Version)),(.t (str a0.Currency)),(.t (i64 a0.Rating)),(.t (i64 a0.Least)),(.t (i64 a0.Most)),(.t (.sl 3 ((a0.Cuts:List zbs).map zbs.enc))),(.t (i64 a0.Issuer)),(.t (i64 a0.Asset)),(.t (.sl 1 ((a0.Barred:List Int).map eN)))])),(4,(.box [(.t (str a1.ISIN)),(.t (i64 a1.Issuer)),(.t (i64 a1.Rating)),(.t (i64 a1.Maturity)),(.t (str a1.Currency))]))] []
def zcl_q0_0 (r1:Int)(a0:zat)(a1:zaf)(y:Int):St:=mkSt [(6,(.t (i64 y))),(7,(.t (boo true)))] [] []
def zcl_x0_0 (r1:Int)(a0:zat)(a1:zaf)(Q:Int→Prop)(y:Int):Prop:=Lf .ret (zcl_q0_0 r1 a0 a1) y (Q y)
def zcl_q0_1 (r1:Int)(a0:zat)(a1:zaf)(y:Unit):St:=mkSt [] [] []
def zcl_x0_1 (r1:Int)(a0:zat)(a1:zaf)(Q:Unit→Prop)(y:Unit):Prop:=Lf (.exit 0) (zcl_q0_1 r1 a0 a1) y (Q y)
def zcl_L0 (r1:Int)(a0:zat)(a1:zaf)(Q0_:Int→Prop)(Q1_:Unit→Prop)(s0_0:Int):Prop:=LW Tryz.prog 49 (loopAt Tryz.f125 0) (Outs.K (.cons .ret [.keep [6,7] []] (zcl_q0_0 r1 a0 a1) Q0_ (.one (.exit 0) [.keep [] []] (zcl_q0_1 r1 a0 a1) Q1_))) (zcl_s0 r1 a0 a1 s0_0)
def zcl_w0 (r1:Int)(a0:zat)(a1:zaf)(X_:Int→Prop)(Q0_:Int→Prop)(Q1_:Unit→Prop)(s0_0:Int):Prop:=Br (decide (s0_0<(lenM zbs.enc a0.Cuts))) (Br (decide (r1≥0)) (∃xa1:zbs,Got zbs.enc a0.Cuts s0_0 xa1 (Br (decide (xa1.Days≥r1)) (Got zbs.enc a0.Cuts s0_0 xa1 (Br (decide (xa1.Rating≥a1.Rating)) (Got zbs.enc a0.Cuts s0_0 xa1 (zcl_x0_0 r1 a0 a1 Q0_ xa1.Cut)) (Num .i64 (s0_0+1) (X_ (s0_0+1))))) (Num .i64 (s0_0+1) (X_ (s0_0+1))))) (zcl_x0_1 r1 a0 a1 Q1_ ())) (zcl_x0_1 r1 a0 a1 Q1_ ())
def zcl_h0 (r1:Int)(a0:zat)(a1:zaf)(s0_0:Int):HT (Int ⊕ Unit) := .bo 3 5 (.both 21 (.ex (zbs) fun xa1 => .op 5 3 (.row (s0_0:Int).toNat (zbs.enc xa1)) (.bo 5 8 (.op 5 12 (.row (s0_0:Int).toNat (zbs.enc xa1)) (.both 42 (.op 6 3 (.row (s0_0:Int).toNat (zbs.enc xa1)) (.ret [.keep [6,7] []] (.inl xa1.Cut))) (.op 4 1 (.nw) (.round [.keep [3,4,8,9] [3,4]])))) (.op 4 1 (.nw) (.round [.keep [3,4,8,9] [3,4]])))) (.ret [.keep [] []] (.inr ()))) (.ret [.keep [] []] (.inr ()))
theorem zcl_l0 {r1 a0 a1 Q0_ Q1_ s0_0}(h:zcl_w0 r1 a0 a1 (zcl_L0 r1 a0 a1 Q0_ Q1_) Q0_ Q1_ s0_0):zcl_L0 r1 a0 a1 Q0_ Q1_ s0_0:=Qac _ (zcl_h0 r1 a0 a1 s0_0) h (by kernel_rfl)
def zcl_R (v:Int×Bool):A:=(.tup [(.t (i64 v.1)),(.t (boo v.2))])
def zcl_O (v:Int×Bool):List (Nat×O):=[]
def zcl_e (Q:(Int×Bool)→Prop)(v:Int×Bool):Prop:=Rt (zcl_R) (zcl_O) v (Q v)
def zcl_r (a0:zat)(a1:zaf)(a2:Int)(v:Int×Bool):Prop:=Con Tryz.prog 125 [(.agg [(.t (i64 a0.ID)),(.t (i64 a0.Version)),(.t (str a0.Currency)),(.t (i64 a0.Rating)),(.t (i64 a0.Least)),(.t (i64 a0.Most)),(.t (.sl 3 ((a0.Cuts:List zbs).map zbs.enc))),(.t (i64 a0.Issuer)),(.t (i64 a0.Asset)),(.t (.sl 1 ((a0.Barred:List Int).map eN)))]),(.agg [(.t (str a1.ISIN)),(.t (i64 a1.Issuer)),(.t (i64 a1.Rating)),(.t (i64 a1.Maturity)),(.t (str a1.Currency))]),(.t (i64 a2))] [] (fun r_ o_=>r_=zcl_R v∧o_=zcl_O v)
def zcl_w (a0:zat)(a1:zaf)(a2:Int)(Q_:(Int×Bool)→Prop):Prop:=∃r1:Int,(zeo_r a1 a2 r1)∧(zcl_L0 r1 a0 a1 (fun(y2:Int)=>zcl_e Q_ (y2,true)) (fun(y2:Unit)=>zcl_e Q_ (0,false)) 0)
def zcl_h (a0:zat)(a1:zaf)(a2:Int):HT (Int×Bool) := .ex (Int) fun r1 => .op 1 2 (.call [] (.t (i64 r1)) []) (.loop [.keep [3,4,8,9] [3,4]] (.out (Int) .ret [.keep [6,7] []] (zcl_q0_0 r1 a0 a1) (fun y2 => .fin [] [] (y2,true)) (.out (Unit) (.exit 0) [.keep [] []] (zcl_q0_1 r1 a0 a1) (fun y2 => .fin [] [] (0,false)) (.nil))))
theorem zcl_of {a0 a1 a2 v}(h:zcl_w a0 a1 a2 (fun v_=>v_=v)):zcl_r a0 a1 a2 v:=Qaa Tryz.call125 Tryz.func125 [] (zcl_h a0 a1 a2) h
def zea_R (v:zag×Int):A:=(.tup [(.agg [(.t (str v.1.Lot.ISIN)),(.t (i64 v.1.Lot.Qty)),(.t (str v.1.Asset.ISIN)),(.t (i64 v.1.Asset.Issuer)),(.t (i64 v.1.Asset.Rating)),(.t (i64 v.1.Asset.Maturity)),(.t (str v.1.Asset.Currency)),(.t (i64 v.1.Price)),(.t (i64 v.1.Cut))]),(.t (i64 v.2))])
def zea_O (v:zag×Int):List (Nat×O):=[]
def zea_e (Q:(zag×Int)→Prop)(v:zag×Int):Prop:=Rt (zea_R) (zea_O) v (Q v)
def zea_r (a0:(List zad))(a1:zat)(a2:zab)(a3:Int)(v:zag×Int):Prop:=Con Tryz.prog 73 [(.t (.sl 6 ((a0:List zad).map zad.enc))),(.agg [(.t (i64 a1.ID)),(.t (i64 a1.Version)),(.t (str a1.Currency)),(.t (i64 a1.Rating)),(.t (i64 a1.Least)),(.t (i64 a1.Most)),(.t (.sl 3 ((a1.Cuts:List zbs).map zbs.enc))),(.t (i64 a1.Issuer)),(.t (i64 a1.Asset)),(.t (.sl 1 ((a1.Barred:List Int).map eN)))]),(.agg [(.t (str a2.ISIN)),(.t (i64 a2.Qty))]),(.t (i64 a3))] [] (fun r_ o_=>r_=zea_R v∧o_=zea_O v)
def zea_w (a0:(List zad))(a1:zat)(a2:zab)(a3:Int)(Q_:(zag×Int)→Prop):Prop:=∃r1:Int,(zbx_r a0 a2.ISIN r1)∧(Br (decide (r1<0)) (zea_e Q_ ((⟨(⟨ByteArray.empty,0⟩:zab),(⟨ByteArray.empty,0,0,0,ByteArray.empty⟩:zaf),0,0⟩:zag),21)) (∃x2:zad,Got zad.enc a0 r1 x2 (Br (x2.Price==0) (zea_e Q_ ((⟨(⟨ByteArray.empty,0⟩:zab),(⟨ByteArray.empty,0,0,0,ByteArray.empty⟩:zaf),0,0⟩:zag),31)) (Got zad.enc a0 r1 x2 (∃r3:Int×Bool,(zcl_r a1 x2.A a3 r3)∧(Br (!r3.2) (zea_e Q_ ((⟨(⟨ByteArray.empty,0⟩:zab),(⟨ByteArray.empty,0,0,0,ByteArray.empty⟩:zaf),0,0⟩:zag),23)) (Br (decide (a2.Qty<0)) (zea_e Q_ ((⟨(⟨ByteArray.empty,0⟩:zab),(⟨ByteArray.empty,0,0,0,ByteArray.empty⟩:zaf),0,0⟩:zag),1)) (Br (decide (a2.Qty>1125899906842624)) (zea_e Q_ ((⟨(⟨ByteArray.empty,0⟩:zab),(⟨ByteArray.empty,0,0,0,ByteArray.empty⟩:zaf),0,0⟩:zag),1)) (Got zad.enc a0 r1 x2 (Got zad.enc a0 r1 x2 (zea_e Q_ ((⟨a2,x2.A,x2.Price,r3.1⟩:zag),0))))))))))))
def zea_h (a0:(List zad))(a1:zat)(a2:zab)(a3:Int):HT (zag×Int) := .ex (Int) fun r1 => .op 1 3 (.call [] (.t (i64 r1)) []) (.both 18 (.fin [] [] ((⟨(⟨ByteArray.empty,0⟩:zab),(⟨ByteArray.empty,0,0,0,ByteArray.empty⟩:zaf),0,0⟩:zag),21)) (.ex (zad) fun x2 => .op 4 2 (.row (r1:Int).toNat (zad.enc x2)) (.both 25 (.fin [] [] ((⟨(⟨ByteArray.empty,0⟩:zab),(⟨ByteArray.empty,0,0,0,ByteArray.empty⟩:zaf),0,0⟩:zag),31)) (.op 6 3 (.row (r1:Int).toNat (zad.enc x2)) (.ex (Int×Bool) fun r3 => .op 6 7 (.call [] (.tup [(.t (i64 r3.1)),(.t (boo r3.2))]) []) (.both 39 (.fin [] [] ((⟨(⟨ByteArray.empty,0⟩:zab),(⟨ByteArray.empty,0,0,0,ByteArray.empty⟩:zaf),0,0⟩:zag),23)) (.bo 9 3 (.fin [] [] ((⟨(⟨ByteArray.empty,0⟩:zab),(⟨ByteArray.empty,0,0,0,ByteArray.empty⟩:zaf),0,0⟩:zag),1)) (.both 48 (.fin [] [] ((⟨(⟨ByteArray.empty,0⟩:zab),(⟨ByteArray.empty,0,0,0,ByteArray.empty⟩:zaf),0,0⟩:zag),1)) (.op 11 3 (.row (r1:Int).toNat (zad.enc x2)) (.op 11 8 (.row (r1:Int).toNat (zad.enc x2)) (.fin [] [] ((⟨a2,x2.A,x2.Price,r3.1⟩:zag),0))))))))))))
theorem zea_of {a0 a1 a2 a3 v}(h:zea_w a0 a1 a2 a3 (fun v_=>v_=v)):zea_r a0 a1 a2 a3 v:=Qaa Tryz.call73 Tryz.func73 [] (zea_h a0 a1 a2 a3) h
def zch_s0 (a0:(List Int))(a1:Int)(s0_0:Int):St:=mkSt [(0,(.t (.sl 1 ((a0:List Int).map eN)))),(1,(.t (i64 a1))),(5,(.t (i64 s0_0)))] [] []
def zch_q0_0 (a0:(List Int))(a1:Int)(y:Unit):St:=mkSt [(4,(.t (boo true)))] [] []
def zch_x0_0 (a0:(List Int))(a1:Int)(Q:Unit→Prop)(y:Unit):Prop:=Lf .ret (zch_q0_0 a0 a1) y (Q y)
def zch_q0_1 (a0:(List Int))(a1:Int)(y:Unit):St:=mkSt [] [] []
def zch_x0_1 (a0:(List Int))(a1:Int)(Q:Unit→Prop)(y:Unit):Prop:=Lf (.exit 0) (zch_q0_1 a0 a1) y (Q y)
def zch_L0 (a0:(List Int))(a1:Int)(Q0_:Unit→Prop)(Q1_:Unit→Prop)(s0_0:Int):Prop:=LW Tryz.prog 18 (loopAt Tryz.f127 0) (Outs.K (.cons .ret [.keep [4] []] (zch_q0_0 a0 a1) Q0_ (.one (.exit 0) [.keep [] []] (zch_q0_1 a0 a1) Q1_))) (zch_s0 a0 a1 s0_0)
def zch_w0 (a0:(List Int))(a1:Int)(X_:Int→Prop)(Q0_:Unit→Prop)(Q1_:Unit→Prop)(s0_0:Int):Prop:=Br (decide (s0_0<(lenM eN a0))) (∃xa1:Int,Got eN a0 s0_0 xa1 (Br (xa1==a1) (zch_x0_0 a0 a1 Q0_ ()) (Num .i64 (s0_0+1) (X_ (s0_0+1))))) (zch_x0_1 a0 a1 Q1_ ())
def zch_h0 (a0:(List Int))(a1:Int)(s0_0:Int):HT (Unit ⊕ Unit) := .both 9 (.ex (Int) fun xa1 => .op 4 2 (.row (s0_0:Int).toNat (eN xa1)) (.both 17 (.ret [.keep [4] []] (.inl ())) (.op 3 1 (.nw) (.round [.keep [0,1,5] []])))) (.ret [.keep [] []] (.inr ()))
theorem zch_l0 {a0 a1 Q0_ Q1_ s0_0}(h:zch_w0 a0 a1 (zch_L0 a0 a1 Q0_ Q1_) Q0_ Q1_ s0_0):zch_L0 a0 a1 Q0_ Q1_ s0_0:=Qac _ (zch_h0 a0 a1 s0_0) h (by kernel_rfl)
def zch_R (v:Bool):A:=(.t (boo v))
def zch_O (v:Bool):List (Nat×O):=[]
def zch_e (Q:Bool→Prop)(v:Bool):Prop:=Rt (zch_R) (zch_O) v (Q v)
def zch_r (a0:(List Int))(a1:Int)(v:Bool):Prop:=Con Tryz.prog 127 [(.t (.sl 1 ((a0:List Int).map eN))),(.t (i64 a1))] [] (fun r_ o_=>r_=zch_R v∧o_=zch_O v)
def zch_w (a0:(List Int))(a1:Int)(Q_:Bool→Prop):Prop:=zch_L0 a0 a1 (fun(y1:Unit)=>zch_e Q_ true) (fun(y1:Unit)=>zch_e Q_ false) 0
def zch_h (a0:(List Int))(a1:Int):HT Bool := .loop [.keep [0,1,5] []] (.out (Unit) .ret [.keep [4] []] (zch_q0_0 a0 a1) (fun y1 => .fin [] [] true) (.out (Unit) (.exit 0) [.keep [] []] (zch_q0_1 a0 a1) (fun y1 => .fin [] [] false) (.nil)))
theorem zch_of {a0 a1 v}(h:zch_w a0 a1 (fun v_=>v_=v)):zch_r a0 a1 v:=Qaa Tryz.call127 Tryz.func127 [] (zch_h a0 a1) h
def zee_R (v:Int):A:=(.t (i64 v))
def zee_O (v:Int):List (Nat×O):=[]
def zee_e (Q:Int→Prop)(v:Int):Prop:=Rt (zee_R) (zee_O) v (Q v)
def zee_r (a0:zat)(a1:zaf)(a2:Int)(v:Int):Prop:=Con Tryz.prog 74 [(.agg [(.t (i64 a0.ID)),(.t (i64 a0.Version)),(.t (str a0.Currency)),(.t (i64 a0.Rating)),(.t (i64 a0.Least)),(.t (i64 a0.Most)),(.t (.sl 3 ((a0.Cuts:List zbs).map zbs.enc))),(.t (i64 a0.Issuer)),(.t (i64 a0.Asset)),(.t (.sl 1 ((a0.Barred:List Int).map eN)))]),(.agg [(.t (str a1.ISIN)),(.t (i64 a1.Issuer)),(.t (i64 a1.Rating)),(.t (i64 a1.Maturity)),(.t (str a1.Currency))]),(.t (i64 a2))] [] (fun r_ o_=>r_=zee_R v∧o_=zee_O v)
def zee_w (a0:zat)(a1:zaf)(a2:Int)(Q_:Int→Prop):Prop:=Br (!strEq a1.Currency a0.Currency) (zee_e Q_ 1) (Br (decide (a1.Rating>a0.Rating)) (zee_e Q_ 2) (∃r1:Int,(zeo_r a1 a2 r1)∧(Br (decide (r1<1)) (zee_e Q_ 3) (Br (decide (r1<a0.Least)) (zee_e Q_ 3) (Br (decide (r1>a0.Most)) (zee_e Q_ 4) (∃r2:Bool,(zch_r a0.Barred a1.Issuer r2)∧(Br r2 (zee_e Q_ 5) (zee_e Q_ 0))))))))
def zee_h (a0:zat)(a1:zaf)(a2:Int):HT Int := .both 12 (.fin [] [] 1) (.both 17 (.fin [] [] 2) (.ex (Int) fun r1 => .op 5 2 (.call [] (.t (i64 r1)) []) (.bo 6 2 (.fin [] [] 3) (.both 28 (.fin [] [] 3) (.both 32 (.fin [] [] 4) (.ex (Bool) fun r2 => .op 10 4 (.call [] (.t (boo r2)) []) (.both 37 (.fin [] [] 5) (.fin [] [] 0))))))))
theorem zee_of {a0 a1 a2 v}(h:zee_w a0 a1 a2 (fun v_=>v_=v)):zee_r a0 a1 a2 v:=Qaa Tryz.call74 Tryz.func74 [] (zee_h a0 a1 a2) h
end Go.Proofs.YtjlkmdmaimednaaGreat.R
