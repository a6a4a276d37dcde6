import Derived.Test.YtjlkmdmaimednaaGreatAbX
import Derived.Test.YtjlkmdmaimednaaGreatRF
set_option linter.unusedVariables false
set_option linter.unusedSimpArgs false
open Go Go.Ab Go.Proofs
namespace Go.Proofs.YtjlkmdmaimednaaGreat.R
set_option linter.unusedVariables false
structure zab where
 ISIN:ByteArray
 Qty:Int
def zab.enc (x:zab):List T:=[(str x.ISIN),(i64 x.Qty)]
structure zag where
 ISIN:ByteArray
 Issuer:Int
 Rating:Int
 Maturity:Int
 Currency:ByteArray
def zag.enc (x:zag):List T:=[(str x.ISIN),(i64 x.Issuer),(i64 x.Rating),(i64 x.Maturity),(str x.Currency)]
structure zaa where
 Lot:zab
 Asset:zag
 Price:Int
 Cut:Int
def zaa.enc (x:zaa):List T:=[(str x.Lot.ISIN),(i64 x.Lot.Qty),(str x.Asset.ISIN),(i64 x.Asset.Issuer),(i64 x.Asset.Rating),(i64 x.Asset.Maturity),(str x.Asset.Currency),(i64 x.Price),(i64 x.Cut)]
structure zac where
 Lot:zab
 Asset:zag
 Price:Int
 Cut:Int
def zac.enc (x:zac):List T:=[(str x.Lot.ISIN),(i64 x.Lot.Qty),(str x.Asset.ISIN),(i64 x.Asset.Issuer),(i64 x.Asset.Rating),(i64 x.Asset.Maturity),(str x.Asset.Currency),(i64 x.Price),(i64 x.Cut)]
structure zat where
 l:(List zag)
 prices:(List Int)
 made:Bool
def zat.enc (x:zat):List T:=[(.sl 5 ((x.l:List zag).map zag.enc)),(.sl 1 ((x.prices:List Int).map eN)),(boo x.made)]
structure zbp where
 Days:Int
 Rating:Int
 Cut:Int
def zbp.enc (x:zbp):List T:=[(i64 x.Days),(i64 x.Rating),(i64 x.Cut)]
structure zav where
 ID:Int
 Version:Int
 Currency:ByteArray
 Rating:Int
 Least:Int
 Most:Int
 Cuts:(List zbp)
 Issuer:Int
 Asset:Int
 Barred:(List Int)
def zav.enc (x:zav):List T:=[(i64 x.ID),(i64 x.Version),(str x.Currency),(i64 x.Rating),(i64 x.Least),(i64 x.Most),(.sl 3 ((x.Cuts:List zbp).map zbp.enc)),(i64 x.Issuer),(i64 x.Asset),(.sl 1 ((x.Barred:List Int).map eN))]
structure zae where
 A:zag
 Price:Int
def zae.enc (x:zae):List T:=[(str x.A.ISIN),(i64 x.A.Issuer),(i64 x.A.Rating),(i64 x.A.Maturity),(str x.A.Currency),(i64 x.Price)]
def zfx_R (v:Bool):A:=(.t (boo v))
def zfx_O (v:Bool):List (Nat×O):=[]
def zfx_e (Q:Bool→Prop)(v:Bool):Prop:=Rt (zfx_R) (zfx_O) v (Q v)
def zfx_r (a0:Int)(v:Bool):Prop:=Con Tryz.prog 193 [(.t (i64 a0))] [] (fun r_ o_=>r_=zfx_R v∧o_=zfx_O v)
def zfx_w (a0:Int)(Q_:Bool→Prop):Prop:=zfx_e Q_ (a0 != a0)
def zfx_h (a0:Int):HT Bool := .fin [] [] (a0 != a0)
theorem zfx_of {a0 v} (h:zfx_w a0 (fun v_=>v_=v)):zfx_r a0 v:=Con_of1 Tryz.call193 Tryz.func193 [] (zfx_h a0) h
def zew_R (v:Int):A:=(.t (i64 v))
def zew_O (v:Int):List (Nat×O):=[]
def zew_e (Q:Int→Prop)(v:Int):Prop:=Rt (zew_R) (zew_O) v (Q v)
def zew_r (a0:Int)(a1:Int)(v:Int):Prop:=Con Tryz.prog 158 [(.t (i64 a0)),(.t (i64 a1))] [] (fun r_ o_=>r_=zew_R v∧o_=zew_O v)
def zew_w (a0:Int)(a1:Int)(Q_:Int→Prop):Prop:=∃ r1:Bool,(zfx_r a0 r1)∧(∃ r2:Bool,(zfx_r a1 r2)∧(Br r1 (Br r2 (zew_e Q_ 0) (zew_e Q_ (-1))) (Br r2 (zew_e Q_ 1) (Br (decide (a0<a1)) (zew_e Q_ (-1)) (Br (decide (a0>a1)) (zew_e Q_ 1) (zew_e Q_ 0))))))
def zew_h (a0:Int)(a1:Int):HT Int := .ex (Bool) fun r1 => .op 1 1 (.call [] (.t (boo r1)) []) (.ex (Bool) fun r2 => .op 2 1 (.call [] (.t (boo r2)) []) (.both 11 (.both 12 (.fin [] [] 0) (.fin [] [] (-1))) (.both 13 (.fin [] [] 1) (.both 16 (.fin [] [] (-1)) (.both 19 (.fin [] [] 1) (.fin [] [] 0))))))
theorem zew_of {a0 a1 v} (h:zew_w a0 a1 (fun v_=>v_=v)):zew_r a0 a1 v:=Con_of1 Tryz.call158 Tryz.func158 [] (zew_h a0 a1) h
def zfr_R (v:Bool):A:=(.t (boo v))
def zfr_O (v:Bool):List (Nat×O):=[]
def zfr_e (Q:Bool→Prop)(v:Bool):Prop:=Rt (zfr_R) (zfr_O) v (Q v)
def zfr_r (a0:ByteArray)(v:Bool):Prop:=Con Tryz.prog 149 [(.t (str a0))] [] (fun r_ o_=>r_=zfr_R v∧o_=zfr_O v)
def zfr_w (a0:ByteArray)(Q_:Bool→Prop):Prop:=zfr_e Q_ (!strEq a0 a0)
def zfr_h (a0:ByteArray):HT Bool := .fin [] [] (!strEq a0 a0)
theorem zfr_of {a0 v} (h:zfr_w a0 (fun v_=>v_=v)):zfr_r a0 v:=Con_of1 Tryz.call149 Tryz.func149 [] (zfr_h a0) h
def zds_R (v:Int):A:=(.t (i64 v))
def zds_O (v:Int):List (Nat×O):=[]
def zds_e (Q:Int→Prop)(v:Int):Prop:=Rt (zds_R) (zds_O) v (Q v)
def zds_r (a0:ByteArray)(a1:ByteArray)(v:Int):Prop:=Con Tryz.prog 95 [(.t (str a0)),(.t (str a1))] [] (fun r_ o_=>r_=zds_R v∧o_=zds_O v)
def zds_w (a0:ByteArray)(a1:ByteArray)(Q_:Int→Prop):Prop:=∃ r1:Bool,(zfr_r a0 r1)∧(∃ r2:Bool,(zfr_r a1 r2)∧(Br r1 (Br r2 (zds_e Q_ 0) (zds_e Q_ (-1))) (Br r2 (zds_e Q_ 1) (Br (strLt a0 a1) (zds_e Q_ (-1)) (Br (!strLe a0 a1) (zds_e Q_ 1) (zds_e Q_ 0))))))
def zds_h (a0:ByteArray)(a1:ByteArray):HT Int := .ex (Bool) fun r1 => .op 1 1 (.call [] (.t (boo r1)) []) (.ex (Bool) fun r2 => .op 2 1 (.call [] (.t (boo r2)) []) (.both 11 (.both 12 (.fin [] [] 0) (.fin [] [] (-1))) (.both 13 (.fin [] [] 1) (.both 16 (.fin [] [] (-1)) (.both 19 (.fin [] [] 1) (.fin [] [] 0))))))
theorem zds_of {a0 a1 v} (h:zds_w a0 a1 (fun v_=>v_=v)):zds_r a0 a1 v:=Con_of1 Tryz.call95 Tryz.func95 [] (zds_h a0 a1) h
def zdq_s0 (a0:(List Int))(s0_0:Int):St:=mkSt [(3,(.t (i64 0))),(6,(.t (.sl 1 ((a0:List Int).map eN)))),(7,(.t (i64 (lenM eN a0)))),(8,(.t (i64 s0_0)))] [] []
def zdq_q0_0 (a0:(List Int))(y:Int):St:=mkSt [(2,(.t (i64 y)))] [] []
def zdq_x0_0 (a0:(List Int))(Q:Int→Prop)(y:Int):Prop:=Lf .ret (zdq_q0_0 a0) y (Q y)
def zdq_q0_1 (a0:(List Int))(y:Unit):St:=mkSt [(3,(.t (i64 0)))] [] []
def zdq_x0_1 (a0:(List Int))(Q:Unit→Prop)(y:Unit):Prop:=Lf (.exit 0) (zdq_q0_1 a0) y (Q y)
def zdq_L0 (a0:(List Int))(Q0_:Int→Prop)(Q1_:Unit→Prop)(s0_0:Int):Prop:=LW Tryz.prog 18 (loopAt Tryz.f157 0) (Outs.K (.cons .ret [.keep [2] []] (zdq_q0_0 a0) Q0_ (.one (.exit 0) [.keep [3] []] (zdq_q0_1 a0) Q1_))) (zdq_s0 a0 s0_0)
def zdq_w0 (a0:(List Int))(X_:Int→Prop)(Q0_:Int→Prop)(Q1_:Unit→Prop)(s0_0:Int):Prop:=Br (decide (s0_0<(lenM eN a0))) (∃ xa1:Int,Got eN a0 s0_0 xa1 (Br (xa1 != 0) (zdq_x0_0 a0 Q0_ xa1) (Num .i64 (s0_0+1) (X_ (s0_0+1))))) (zdq_x0_1 a0 Q1_ ())
def zdq_h0 (a0:(List Int))(s0_0:Int):HT (Int ⊕ Unit) := .both 9 (.ex (Int) fun xa1 => .op 4 0 (.row (s0_0:Int).toNat (eN xa1)) (.both 14 (.ret [.keep [2] []] (.inl xa1)) (.op 7 0 (.nw) (.round [.keep [3,6,7,8] []])))) (.ret [.keep [3] []] (.inr ()))
theorem zdq_l0 {a0 Q0_ Q1_ s0_0} (h:zdq_w0 a0 (zdq_L0 a0 Q0_ Q1_) Q0_ Q1_ s0_0):zdq_L0 a0 Q0_ Q1_ s0_0:=LW_runT _ (zdq_h0 a0 s0_0) h (by kernel_rfl)
def zdq_R (v:Int):A:=(.t (i64 v))
def zdq_O (v:Int):List (Nat×O):=[]
def zdq_e (Q:Int→Prop)(v:Int):Prop:=Rt (zdq_R) (zdq_O) v (Q v)
def zdq_r (a0:(List Int))(v:Int):Prop:=Con Tryz.prog 157 [(.t (.sl 1 ((a0:List Int).map eN)))] [] (fun r_ o_=>r_=zdq_R v∧o_=zdq_O v)
def zdq_w (a0:(List Int))(Q_:Int→Prop):Prop:=zdq_L0 a0 (fun (y1:Int)=>zdq_e Q_ y1) (fun (y1:Unit)=>zdq_e Q_ 0) 0
def zdq_h (a0:(List Int)):HT Int := .loop [.keep [3,6,7,8] []] (.out (Int) .ret [.keep [2] []] (zdq_q0_0 a0) (fun y1 => .fin [] [] y1) (.out (Unit) (.exit 0) [.keep [3] []] (zdq_q0_1 a0) (fun y1 => .fin [] [] 0) (.nil)))
theorem zdq_of {a0 v} (h:zdq_w a0 (fun v_=>v_=v)):zdq_r a0 v:=Con_of1 Tryz.call157 Tryz.func157 [] (zdq_h a0) h
def zgq_R (v:Int):A:=(.t (i64 v))
def zgq_O (v:Int):List (Nat×O):=[]
def zgq_e (Q:Int→Prop)(v:Int):Prop:=Rt (zgq_R) (zgq_O) v (Q v)
def zgq_r (a0:zaa)(a1:zaa)(v:Int):Prop:=Con Tryz.prog 107 [(.agg [(.t (str a0.Lot.ISIN)),(.t (i64 a0.Lot.Qty)),(.t (str a0.Asset.ISIN)),(.t (i64 a0.Asset.Issuer)),(.t (i64 a0.Asset.Rating)),(.t (i64 a0.Asset.Maturity)),(.t (str a0.Asset.Currency)),(.t (i64 a0.Price)),(.t (i64 a0.Cut))]),(.agg [(.t (str a1.Lot.ISIN)),(.t (i64 a1.Lot.Qty)),(.t (str a1.Asset.ISIN)),(.t (i64 a1.Asset.Issuer)),(.t (i64 a1.Asset.Rating)),(.t (i64 a1.Asset.Maturity)),(.t (str a1.Asset.Currency)),(.t (i64 a1.Price)),(.t (i64 a1.Cut))])] [] (fun r_ o_=>r_=zgq_R v∧o_=zgq_O v)
def zgq_w (a0:zaa)(a1:zaa)(Q_:Int→Prop):Prop:=∃ r1:Int,(zew_r a0.Cut a1.Cut r1)∧(∃ r2:Int,(zew_r a0.Asset.Maturity a1.Asset.Maturity r2)∧(∃ r3:Int,(zds_r a0.Lot.ISIN a1.Lot.ISIN r3)∧(∃ r4:Int,(zdq_r [r1,r2,r3] r4)∧(zgq_e Q_ r4))))
def zgq_h (a0:zaa)(a1:zaa):HT Int := .ex (Int) fun r1 => .op 1 4 (.call [] (.t (i64 r1)) []) (.ex (Int) fun r2 => .op 1 11 (.call [] (.t (i64 r2)) []) (.ex (Int) fun r3 => .op 1 18 (.call [] (.t (i64 r3)) []) (.ex (Int) fun r4 => .op 1 20 (.ro (.t (i64 r4))) (.fin [] [] r4))))
theorem zgq_of {a0 a1 v} (h:zgq_w a0 a1 (fun v_=>v_=v)):zgq_r a0 a1 v:=Con_of1 Tryz.call107 Tryz.func107 [] (zgq_h a0 a1) h
def zai_s1 (a1:Int)(a2:Int)(s0_0:Int)(s1_0:Int)(s1_1:(List zaa)):St:=mkSt [(0,(.ref 620)),(1,(.t (i64 a1))),(2,(.t (i64 a2))),(3,(.fn 107 [])),(8,(.t (i64 s0_0))),(9,(.t (i64 s1_0)))] [(620,(.row 9 ((s1_1:List zaa).map zaa.enc)))] [620]
def zai_q1_0 (a1:Int)(a2:Int)(s0_0:Int)(y:(List zaa)):St:=mkSt [(0,(.ref 620)),(1,(.t (i64 a1))),(2,(.t (i64 a2))),(3,(.fn 107 [])),(8,(.t (i64 s0_0)))] [(620,(.row 9 ((y:List zaa).map zaa.enc)))] [620]
def zai_x1_0 (a1:Int)(a2:Int)(s0_0:Int)(Q:(List zaa)→Prop)(y:(List zaa)):Prop:=Lf (.exit 2) (zai_q1_0 a1 a2 s0_0) y (Q y)
def zai_L1 (a1:Int)(a2:Int)(s0_0:Int)(Q0_:(List zaa)→Prop)(s1_0:Int)(s1_1:(List zaa)):Prop:=LW Tryz.prog 53 (loopAt Tryz.f191 1) (Outs.K (.one (.exit 2) [.keep [0,1,2,3,8] [620]] (zai_q1_0 a1 a2 s0_0) Q0_)) (zai_s1 a1 a2 s0_0 s1_0 s1_1)
def zai_w1 (a1:Int)(a2:Int)(s0_0:Int)(X_:Int→(List zaa)→Prop)(Q0_:(List zaa)→Prop)(s1_0:Int)(s1_1:(List zaa)):Prop:=Br (decide (s1_0>a1)) (InL zaa.enc s1_1 s1_0 (∃ xb1:zaa,EltG zaa.enc s1_1 s1_0 xb1 (Num .i64 (s1_0-1) (InL zaa.enc s1_1 (s1_0-1) (∃ xb2:zaa,EltG zaa.enc s1_1 (s1_0-1) xb2 (∃ rb3:Int,(zgq_r xb1 xb2 rb3)∧(Br (decide (rb3<0)) (Num .i64 (s1_0-1) (Num .i64 (s1_0-1) (InL zaa.enc s1_1 (s1_0-1) (EltG zaa.enc s1_1 (s1_0-1) xb2 (InL zaa.enc s1_1 s1_0 (EltG zaa.enc s1_1 s1_0 xb1 (InL zaa.enc s1_1 s1_0 (EltS zaa.enc s1_1 s1_0 xb1 xb2 (InL zaa.enc (s1_1.set (s1_0:Int).toNat xb2) (s1_0-1) (∃ xb4:zaa,EltS zaa.enc (s1_1.set (s1_0:Int).toNat xb2) (s1_0-1) xb4 xb1 (Num .i64 (s1_0-1) (X_ (s1_0-1) ((s1_1.set (s1_0:Int).toNat xb2).set ((s1_0-1):Int).toNat xb1))))))))))))) (zai_x1_0 a1 a2 s0_0 Q0_ s1_1)))))))) (zai_x1_0 a1 a2 s0_0 Q0_ s1_1)
def zai_h1 (a1:Int)(a2:Int)(s0_0:Int)(s1_0:Int)(s1_1:(List zaa)):HT (List zaa) := .bo 4 3 (.op 4 7 (.ix (s1_0:Int).toNat) (.ex (zaa) fun xb1 => .op 4 8 (.row (s1_0:Int).toNat (zaa.enc xb1)) (.op 4 11 (.nw) (.op 4 12 (.ix ((s1_0-1):Int).toNat) (.ex (zaa) fun xb2 => .op 4 13 (.row ((s1_0-1):Int).toNat (zaa.enc xb2)) (.ex (Int) fun rb3 => .op 4 14 (.call [] (.t (i64 rb3)) []) (.both 34 (.op 6 4 (.nw) (.op 6 7 (.nw) (.op 6 8 (.ix ((s1_0-1):Int).toNat) (.op 6 9 (.row ((s1_0-1):Int).toNat (zaa.enc xb2)) (.op 6 12 (.ix (s1_0:Int).toNat) (.op 6 13 (.row (s1_0:Int).toNat (zaa.enc xb1)) (.op 6 14 (.ix (s1_0:Int).toNat) (.op 6 15 (.row (s1_0:Int).toNat (zaa.enc xb1)) (.rw 620 (((s1_1.set (s1_0:Int).toNat xb2):List zaa).map zaa.enc) (.op 6 16 (.ix ((s1_0-1):Int).toNat) (.ex (zaa) fun xb4 => .op 6 17 (.row ((s1_0-1):Int).toNat (zaa.enc xb4)) (.rw 620 ((((s1_1.set (s1_0:Int).toNat xb2).set ((s1_0-1):Int).toNat xb1):List zaa).map zaa.enc) (.op 5 1 (.nw) (.round [.keep [0,1,2,3,8,9] [620]])))))))))))))) (.ret [.keep [0,1,2,3,8] [620]] s1_1)))))))) (.ret [.keep [0,1,2,3,8] [620]] s1_1)
theorem zai_l1 {a1 a2 s0_0 Q0_ s1_0 s1_1} (h:zai_w1 a1 a2 s0_0 (zai_L1 a1 a2 s0_0 Q0_) Q0_ s1_0 s1_1):zai_L1 a1 a2 s0_0 Q0_ s1_0 s1_1:=LW_runT _ (zai_h1 a1 a2 s0_0 s1_0 s1_1) h (by kernel_rfl)
def zai_s0 (a1:Int)(a2:Int)(s0_0:Int)(s0_1:(List zaa)):St:=mkSt [(0,(.ref 620)),(1,(.t (i64 a1))),(2,(.t (i64 a2))),(3,(.fn 107 [])),(8,(.t (i64 s0_0)))] [(620,(.row 9 ((s0_1:List zaa).map zaa.enc)))] [620]
def zai_q0_0 (a1:Int)(a2:Int)(y:(List zaa)):St:=mkSt [] [(620,(.row 9 ((y:List zaa).map zaa.enc)))] [620]
def zai_x0_0 (a1:Int)(a2:Int)(Q:(List zaa)→Prop)(y:(List zaa)):Prop:=Lf (.exit 0) (zai_q0_0 a1 a2) y (Q y)
def zai_L0 (a1:Int)(a2:Int)(Q0_:(List zaa)→Prop)(s0_0:Int)(s0_1:(List zaa)):Prop:=LW Tryz.prog 53 (loopAt Tryz.f191 0) (Outs.K (.one (.exit 0) [.keep [] [620]] (zai_q0_0 a1 a2) Q0_)) (zai_s0 a1 a2 s0_0 s0_1)
def zai_w0 (a1:Int)(a2:Int)(X_:Int→(List zaa)→Prop)(Q0_:(List zaa)→Prop)(s0_0:Int)(s0_1:(List zaa)):Prop:=Br (decide (s0_0<a2)) (zai_L1 a1 a2 s0_0 (fun (ya1:(List zaa))=>Num .i64 (s0_0+1) (X_ (s0_0+1) ya1)) s0_0 s0_1) (zai_x0_0 a1 a2 Q0_ s0_1)
def zai_h0 (a1:Int)(a2:Int)(s0_0:Int)(s0_1:(List zaa)):HT (List zaa) := .both 14 (.loop [.keep [0,1,2,3,8,9] [620]] (.out ((List zaa)) (.exit 2) [.keep [0,1,2,3,8] [620]] (zai_q1_0 a1 a2 s0_0) (fun ya1 => .op 2 1 (.nw) (.round [.keep [0,1,2,3,8] [620]])) (.nil))) (.ret [.keep [] [620]] s0_1)
theorem zai_l0 {a1 a2 Q0_ s0_0 s0_1} (h:zai_w0 a1 a2 (zai_L0 a1 a2 Q0_) Q0_ s0_0 s0_1):zai_L0 a1 a2 Q0_ s0_0 s0_1:=LW_runT _ (zai_h0 a1 a2 s0_0 s0_1) h (by kernel_rfl)
def zai_R (v:(List zaa)):A:=(.tup [])
def zai_O (v:(List zaa)):List (Nat×O):=[(620,(.row 9 ((v:List zaa).map zaa.enc)))]
def zai_e (Q:(List zaa)→Prop)(v:(List zaa)):Prop:=Rt (zai_R) (zai_O) v (Q v)
def zai_r (a0:(List zaa))(a1:Int)(a2:Int)(v:(List zaa)):Prop:=Con Tryz.prog 191 [(.ref 620),(.t (i64 a1)),(.t (i64 a2)),(.fn 107 [])] [(620,(.row 9 ((a0:List zaa).map zaa.enc)))] (fun r_ o_=>r_=zai_R v∧o_=zai_O v)
def zai_w (a0:(List zaa))(a1:Int)(a2:Int)(Q_:(List zaa)→Prop):Prop:=Num .i64 (a1+1) (zai_L0 a1 a2 (fun (y1:(List zaa))=>zai_e Q_ y1) (a1+1) a0)
def zai_h (a0:(List zaa))(a1:Int)(a2:Int):HT (List zaa) := .op 0 1 (.nw) (.loop [.keep [0,1,2,3,8] [620]] (.out ((List zaa)) (.exit 0) [.keep [] [620]] (zai_q0_0 a1 a2) (fun y1 => .fin [] [] y1) (.nil)))
theorem zai_of {a0 a1 a2 v} (h:zai_w a0 a1 a2 (fun v_=>v_=v)):zai_r a0 a1 a2 v:=Con_of1 Tryz.call191 Tryz.func191 [620] (zai_h a0 a1 a2) h
def zap_s0 (a1:Int)(a2:Int)(a3:Int)(s0_0:Int)(s0_1:(List zaa)):St:=mkSt [(0,(.ref 620)),(1,(.t (i64 a1))),(2,(.t (i64 a2))),(3,(.t (i64 a3))),(10,(.t (i64 s0_0)))] [(620,(.row 9 ((s0_1:List zaa).map zaa.enc)))] [620]
def zap_q0_0 (a1:Int)(a2:Int)(a3:Int)(y:(List zaa)):St:=mkSt [] [(620,(.row 9 ((y:List zaa).map zaa.enc)))] [620]
def zap_x0_0 (a1:Int)(a2:Int)(a3:Int)(Q:(List zaa)→Prop)(y:(List zaa)):Prop:=Lf (.exit 0) (zap_q0_0 a1 a2 a3) y (Q y)
def zap_L0 (a1:Int)(a2:Int)(a3:Int)(Q0_:(List zaa)→Prop)(s0_0:Int)(s0_1:(List zaa)):Prop:=LW Tryz.prog 38 (loopAt Tryz.f212 0) (Outs.K (.one (.exit 0) [.keep [] [620]] (zap_q0_0 a1 a2 a3) Q0_)) (zap_s0 a1 a2 a3 s0_0 s0_1)
def zap_w0 (a1:Int)(a2:Int)(a3:Int)(X_:Int→(List zaa)→Prop)(Q0_:(List zaa)→Prop)(s0_0:Int)(s0_1:(List zaa)):Prop:=Br (decide (s0_0<a3)) (Num .i64 (a1+s0_0) (Num .i64 (a2+s0_0) (Num .i64 (a2+s0_0) (InL zaa.enc s0_1 (a2+s0_0) (∃ xa1:zaa,EltG zaa.enc s0_1 (a2+s0_0) xa1 (Num .i64 (a1+s0_0) (InL zaa.enc s0_1 (a1+s0_0) (∃ xa2:zaa,EltG zaa.enc s0_1 (a1+s0_0) xa2 (InL zaa.enc s0_1 (a1+s0_0) (EltS zaa.enc s0_1 (a1+s0_0) xa2 xa1 (InL zaa.enc (s0_1.set ((a1+s0_0):Int).toNat xa1) (a2+s0_0) (∃ xa3:zaa,EltS zaa.enc (s0_1.set ((a1+s0_0):Int).toNat xa1) (a2+s0_0) xa3 xa2 (Num .i64 (s0_0+1) (X_ (s0_0+1) ((s0_1.set ((a1+s0_0):Int).toNat xa1).set ((a2+s0_0):Int).toNat xa2))))))))))))))) (zap_x0_0 a1 a2 a3 Q0_ s0_1)
def zap_h0 (a1:Int)(a2:Int)(a3:Int)(s0_0:Int)(s0_1:(List zaa)):HT (List zaa) := .both 13 (.op 3 3 (.nw) (.op 3 7 (.nw) (.op 3 11 (.nw) (.op 3 12 (.ix ((a2+s0_0):Int).toNat) (.ex (zaa) fun xa1 => .op 3 13 (.row ((a2+s0_0):Int).toNat (zaa.enc xa1)) (.op 3 17 (.nw) (.op 3 18 (.ix ((a1+s0_0):Int).toNat) (.ex (zaa) fun xa2 => .op 3 19 (.row ((a1+s0_0):Int).toNat (zaa.enc xa2)) (.op 3 20 (.ix ((a1+s0_0):Int).toNat) (.op 3 21 (.row ((a1+s0_0):Int).toNat (zaa.enc xa2)) (.rw 620 (((s0_1.set ((a1+s0_0):Int).toNat xa1):List zaa).map zaa.enc) (.op 3 22 (.ix ((a2+s0_0):Int).toNat) (.ex (zaa) fun xa3 => .op 3 23 (.row ((a2+s0_0):Int).toNat (zaa.enc xa3)) (.rw 620 ((((s0_1.set ((a1+s0_0):Int).toNat xa1).set ((a2+s0_0):Int).toNat xa2):List zaa).map zaa.enc) (.op 2 1 (.nw) (.round [.keep [0,1,2,3,10] [620]])))))))))))))))) (.ret [.keep [] [620]] s0_1)
theorem zap_l0 {a1 a2 a3 Q0_ s0_0 s0_1} (h:zap_w0 a1 a2 a3 (zap_L0 a1 a2 a3 Q0_) Q0_ s0_0 s0_1):zap_L0 a1 a2 a3 Q0_ s0_0 s0_1:=LW_runT _ (zap_h0 a1 a2 a3 s0_0 s0_1) h (by kernel_rfl)
def zap_R (v:(List zaa)):A:=(.tup [])
def zap_O (v:(List zaa)):List (Nat×O):=[(620,(.row 9 ((v:List zaa).map zaa.enc)))]
def zap_e (Q:(List zaa)→Prop)(v:(List zaa)):Prop:=Rt (zap_R) (zap_O) v (Q v)
def zap_r (a0:(List zaa))(a1:Int)(a2:Int)(a3:Int)(v:(List zaa)):Prop:=Con Tryz.prog 212 [(.ref 620),(.t (i64 a1)),(.t (i64 a2)),(.t (i64 a3)),(.fn 107 [])] [(620,(.row 9 ((a0:List zaa).map zaa.enc)))] (fun r_ o_=>r_=zap_R v∧o_=zap_O v)
def zap_w (a0:(List zaa))(a1:Int)(a2:Int)(a3:Int)(Q_:(List zaa)→Prop):Prop:=zap_L0 a1 a2 a3 (fun (y1:(List zaa))=>zap_e Q_ y1) 0 a0
def zap_h (a0:(List zaa))(a1:Int)(a2:Int)(a3:Int):HT (List zaa) := .loop [.keep [0,1,2,3,10] [620]] (.out ((List zaa)) (.exit 0) [.keep [] [620]] (zap_q0_0 a1 a2 a3) (fun y1 => .fin [] [] y1) (.nil))
theorem zap_of {a0 a1 a2 a3 v} (h:zap_w a0 a1 a2 a3 (fun v_=>v_=v)):zap_r a0 a1 a2 a3 v:=Con_of1 Tryz.call212 Tryz.func212 [620] (zap_h a0 a1 a2 a3) h
def zas_s0 (a2:Int)(s0_0:Int)(s0_1:(List zaa))(s0_2:Int):St:=mkSt [(0,(.ref 620)),(2,(.t (i64 a2))),(4,(.fn 107 [])),(10,(.t (i64 s0_0))),(11,(.t (i64 s0_2)))] [(620,(.row 9 ((s0_1:List zaa).map zaa.enc)))] [620]
def zas_q0_0 (a2:Int)(y:Int×(List zaa)):St:=mkSt [(0,(.ref 620)),(2,(.t (i64 a2))),(4,(.fn 107 [])),(10,(.t (i64 y.1)))] [(620,(.row 9 ((y.2:List zaa).map zaa.enc)))] [620]
def zas_x0_0 (a2:Int)(Q:(Int×(List zaa))→Prop)(y:Int×(List zaa)):Prop:=Lf (.exit 0) (zas_q0_0 a2) y (Q y)
def zas_L0 (a2:Int)(Q0_:(Int×(List zaa))→Prop)(s0_0:Int)(s0_1:(List zaa))(s0_2:Int):Prop:=LW Tryz.prog 58 (loopAt Tryz.f205 0) (Outs.K (.one (.exit 0) [.keep [0,2,4,10] [620]] (zas_q0_0 a2) Q0_)) (zas_s0 a2 s0_0 s0_1 s0_2)
def zas_w0 (a2:Int)(X_:Int→(List zaa)→Int→Prop)(Q0_:(Int×(List zaa))→Prop)(s0_0:Int)(s0_1:(List zaa))(s0_2:Int):Prop:=Br (s0_0 != s0_2) (Br (decide (s0_0>s0_2)) (Num .i64 (a2-s0_0) (∃ ra1:(List zaa),(zap_r s0_1 (a2-s0_0) a2 s0_2 ra1)∧(Num .i64 (s0_0-s0_2) (X_ (s0_0-s0_2) ra1 s0_2)))) (Num .i64 (a2-s0_0) (Num .i64 (a2+s0_2) (Num .i64 ((a2+s0_2)-s0_0) (∃ ra1:(List zaa),(zap_r s0_1 (a2-s0_0) ((a2+s0_2)-s0_0) s0_0 ra1)∧(Num .i64 (s0_2-s0_0) (X_ s0_0 ra1 (s0_2-s0_0)))))))) (zas_x0_0 a2 Q0_ (s0_0,s0_1))
def zas_h0 (a2:Int)(s0_0:Int)(s0_1:(List zaa))(s0_2:Int):HT (Int×(List zaa)) := .both 20 (.both 23 (.op 4 3 (.nw) (.ex ((List zaa)) fun ra1 => .op 4 7 (.call [620] (.tup []) [(620,(.row 9 ((ra1:List zaa).map zaa.enc)))]) (.op 5 2 (.nw) (.round [.keep [0,2,4,10,11] [620]])))) (.op 6 3 (.nw) (.op 6 6 (.nw) (.op 6 8 (.nw) (.ex ((List zaa)) fun ra1 => .op 6 11 (.call [620] (.tup []) [(620,(.row 9 ((ra1:List zaa).map zaa.enc)))]) (.op 7 2 (.nw) (.round [.keep [0,2,4,10,11] [620]]))))))) (.ret [.keep [0,2,4,10] [620]] (s0_0,s0_1))
theorem zas_l0 {a2 Q0_ s0_0 s0_1 s0_2} (h:zas_w0 a2 (zas_L0 a2 Q0_) Q0_ s0_0 s0_1 s0_2):zas_L0 a2 Q0_ s0_0 s0_1 s0_2:=LW_runT _ (zas_h0 a2 s0_0 s0_1 s0_2) h (by kernel_rfl)
def zas_R (v:(List zaa)):A:=(.tup [])
def zas_O (v:(List zaa)):List (Nat×O):=[(620,(.row 9 ((v:List zaa).map zaa.enc)))]
def zas_e (Q:(List zaa)→Prop)(v:(List zaa)):Prop:=Rt (zas_R) (zas_O) v (Q v)
def zas_r (a0:(List zaa))(a1:Int)(a2:Int)(a3:Int)(v:(List zaa)):Prop:=Con Tryz.prog 205 [(.ref 620),(.t (i64 a1)),(.t (i64 a2)),(.t (i64 a3)),(.fn 107 [])] [(620,(.row 9 ((a0:List zaa).map zaa.enc)))] (fun r_ o_=>r_=zas_R v∧o_=zas_O v)
def zas_w (a0:(List zaa))(a1:Int)(a2:Int)(a3:Int)(Q_:(List zaa)→Prop):Prop:=Num .i64 (a2-a1) (Num .i64 (a3-a2) (zas_L0 a2 (fun (y1:Int×(List zaa))=>Num .i64 (a2-y1.1) (∃ r2:(List zaa),(zap_r y1.2 (a2-y1.1) a2 y1.1 r2)∧(zas_e Q_ r2))) (a2-a1) a0 (a3-a2)))
def zas_h (a0:(List zaa))(a1:Int)(a2:Int)(a3:Int):HT (List zaa) := .op 0 2 (.nw) (.op 1 2 (.nw) (.loop [.keep [0,2,4,10,11] [620]] (.out (Int×(List zaa)) (.exit 0) [.keep [0,2,4,10] [620]] (zas_q0_0 a2) (fun y1 => .op 8 3 (.nw) (.ex ((List zaa)) fun r2 => .op 8 7 (.call [620] (.tup []) [(620,(.row 9 ((r2:List zaa).map zaa.enc)))]) (.fin [] [] r2))) (.nil))))
theorem zas_of {a0 a1 a2 a3 v} (h:zas_w a0 a1 a2 a3 (fun v_=>v_=v)):zas_r a0 a1 a2 a3 v:=Con_of1 Tryz.call205 Tryz.func205 [620] (zas_h a0 a1 a2 a3) h
def zad_s4 (a1:Int)(a2:Int)(a3:Int)(a0:(List zaa))(s4_0:Int)(s4_1:Int):St:=mkSt [(0,(.ref 620)),(1,(.t (i64 a1))),(2,(.t (i64 a2))),(3,(.t (i64 a3))),(4,(.fn 107 [])),(18,(.t (i64 (IntKind.wrap .i64 (Int.fdiv (IntKind.wrap .u64 (a1+a3)) 2))))),(19,(.t (i64 ((IntKind.wrap .i64 (Int.fdiv (IntKind.wrap .u64 (a1+a3)) 2))+a2)))),(20,(.t (i64 s4_0))),(21,(.t (i64 s4_1))),(22,(.t (i64 (((IntKind.wrap .i64 (Int.fdiv (IntKind.wrap .u64 (a1+a3)) 2))+a2)-1))))] [(620,(.row 9 ((a0:List zaa).map zaa.enc)))] [620]
def zad_q4_0 (a1:Int)(a2:Int)(a3:Int)(a0:(List zaa))(y:Int):St:=mkSt [(0,(.ref 620)),(1,(.t (i64 a1))),(2,(.t (i64 a2))),(3,(.t (i64 a3))),(4,(.fn 107 [])),(18,(.t (i64 (IntKind.wrap .i64 (Int.fdiv (IntKind.wrap .u64 (a1+a3)) 2))))),(19,(.t (i64 ((IntKind.wrap .i64 (Int.fdiv (IntKind.wrap .u64 (a1+a3)) 2))+a2)))),(20,(.t (i64 y)))] [(620,(.row 9 ((a0:List zaa).map zaa.enc)))] [620]
def zad_x4_0 (a1:Int)(a2:Int)(a3:Int)(a0:(List zaa))(Q:Int→Prop)(y:Int):Prop:=Lf (.exit 8) (zad_q4_0 a1 a2 a3 a0) y (Q y)
def zad_L4 (a1:Int)(a2:Int)(a3:Int)(a0:(List zaa))(Q0_:Int→Prop)(s4_0:Int)(s4_1:Int):Prop:=LW Tryz.prog 220 (loopAt Tryz.f192 4) (Outs.K (.one (.exit 8) [.keep [0,1,2,3,4,18,19,20] [620]] (zad_q4_0 a1 a2 a3 a0) Q0_)) (zad_s4 a1 a2 a3 a0 s4_0 s4_1)
def zad_w4 (a1:Int)(a2:Int)(a3:Int)(a0:(List zaa))(X_:Int→Int→Prop)(Q0_:Int→Prop)(s4_0:Int)(s4_1:Int):Prop:=Br (decide (s4_0<s4_1)) (Num .i64 (s4_0+s4_1) (Num .i64 ((((IntKind.wrap .i64 (Int.fdiv (IntKind.wrap .u64 (a1+a3)) 2))+a2)-1)-(IntKind.wrap .i64 (Int.fdiv (IntKind.wrap .u64 (s4_0+s4_1)) 2))) (InL zaa.enc a0 ((((IntKind.wrap .i64 (Int.fdiv (IntKind.wrap .u64 (a1+a3)) 2))+a2)-1)-(IntKind.wrap .i64 (Int.fdiv (IntKind.wrap .u64 (s4_0+s4_1)) 2))) (∃ xe1:zaa,EltG zaa.enc a0 ((((IntKind.wrap .i64 (Int.fdiv (IntKind.wrap .u64 (a1+a3)) 2))+a2)-1)-(IntKind.wrap .i64 (Int.fdiv (IntKind.wrap .u64 (s4_0+s4_1)) 2))) xe1 (InL zaa.enc a0 (IntKind.wrap .i64 (Int.fdiv (IntKind.wrap .u64 (s4_0+s4_1)) 2)) (∃ xe2:zaa,EltG zaa.enc a0 (IntKind.wrap .i64 (Int.fdiv (IntKind.wrap .u64 (s4_0+s4_1)) 2)) xe2 (∃ re3:Int,(zgq_r xe1 xe2 re3)∧(Br (!(decide (re3<0))) (Num .i64 ((IntKind.wrap .i64 (Int.fdiv (IntKind.wrap .u64 (s4_0+s4_1)) 2))+1) (X_ ((IntKind.wrap .i64 (Int.fdiv (IntKind.wrap .u64 (s4_0+s4_1)) 2))+1) s4_1)) (X_ s4_0 (IntKind.wrap .i64 (Int.fdiv (IntKind.wrap .u64 (s4_0+s4_1)) 2))))))))))) (zad_x4_0 a1 a2 a3 a0 Q0_ s4_0)
def zad_h4 (a1:Int)(a2:Int)(a3:Int)(a0:(List zaa))(s4_0:Int)(s4_1:Int):HT Int := .both 151 (.op 34 2 (.nw) (.op 35 4 (.nw) (.op 35 5 (.ix (((((IntKind.wrap .i64 (Int.fdiv (IntKind.wrap .u64 (a1+a3)) 2))+a2)-1)-(IntKind.wrap .i64 (Int.fdiv (IntKind.wrap .u64 (s4_0+s4_1)) 2))):Int).toNat) (.ex (zaa) fun xe1 => .op 35 6 (.row (((((IntKind.wrap .i64 (Int.fdiv (IntKind.wrap .u64 (a1+a3)) 2))+a2)-1)-(IntKind.wrap .i64 (Int.fdiv (IntKind.wrap .u64 (s4_0+s4_1)) 2))):Int).toNat (zaa.enc xe1)) (.op 35 9 (.ix ((IntKind.wrap .i64 (Int.fdiv (IntKind.wrap .u64 (s4_0+s4_1)) 2)):Int).toNat) (.ex (zaa) fun xe2 => .op 35 10 (.row ((IntKind.wrap .i64 (Int.fdiv (IntKind.wrap .u64 (s4_0+s4_1)) 2)):Int).toNat (zaa.enc xe2)) (.ex (Int) fun re3 => .op 35 11 (.call [] (.t (i64 re3)) []) (.both 171 (.op 36 1 (.nw) (.round [.keep [0,1,2,3,4,18,19,20,21,22] [620]])) (.round [.keep [0,1,2,3,4,18,19,20,21,22] [620]]))))))))) (.ret [.keep [0,1,2,3,4,18,19,20] [620]] s4_0)
theorem zad_l4 {a1 a2 a3 a0 Q0_ s4_0 s4_1} (h:zad_w4 a1 a2 a3 a0 (zad_L4 a1 a2 a3 a0 Q0_) Q0_ s4_0 s4_1):zad_L4 a1 a2 a3 a0 Q0_ s4_0 s4_1:=LW_runT _ (zad_h4 a1 a2 a3 a0 s4_0 s4_1) h (by kernel_rfl)
def zad_s3 (y1:Int)(s3_0:Int)(s3_1:(List zaa)):St:=mkSt [(0,(.ref 620)),(14,(.t (i64 y1))),(17,(.t (i64 s3_0)))] [(620,(.row 9 ((s3_1:List zaa).map zaa.enc)))] [620]
def zad_q3_0 (y1:Int)(y:(List zaa)):St:=mkSt [] [(620,(.row 9 ((y:List zaa).map zaa.enc)))] [620]
def zad_x3_0 (y1:Int)(Q:(List zaa)→Prop)(y:(List zaa)):Prop:=Lf (.exit 6) (zad_q3_0 y1) y (Q y)
def zad_L3 (y1:Int)(Q0_:(List zaa)→Prop)(s3_0:Int)(s3_1:(List zaa)):Prop:=LW Tryz.prog 220 (loopAt Tryz.f192 3) (Outs.K (.one (.exit 6) [.keep [] [620]] (zad_q3_0 y1) Q0_)) (zad_s3 y1 s3_0 s3_1)
def zad_w3 (y1:Int)(X_:Int→(List zaa)→Prop)(Q0_:(List zaa)→Prop)(s3_0:Int)(s3_1:(List zaa)):Prop:=Br (decide (s3_0>y1)) (Num .i64 (s3_0-1) (Num .i64 (s3_0-1) (InL zaa.enc s3_1 (s3_0-1) (∃ xd1:zaa,EltG zaa.enc s3_1 (s3_0-1) xd1 (InL zaa.enc s3_1 s3_0 (∃ xd2:zaa,EltG zaa.enc s3_1 s3_0 xd2 (InL zaa.enc s3_1 s3_0 (EltS zaa.enc s3_1 s3_0 xd2 xd1 (InL zaa.enc (s3_1.set (s3_0:Int).toNat xd1) (s3_0-1) (∃ xd3:zaa,EltS zaa.enc (s3_1.set (s3_0:Int).toNat xd1) (s3_0-1) xd3 xd2 (Num .i64 (s3_0-1) (X_ (s3_0-1) ((s3_1.set (s3_0:Int).toNat xd1).set ((s3_0-1):Int).toNat xd2))))))))))))) (zad_x3_0 y1 Q0_ s3_1)
def zad_h3 (y1:Int)(s3_0:Int)(s3_1:(List zaa)):HT (List zaa) := .both 110 (.op 23 4 (.nw) (.op 23 7 (.nw) (.op 23 8 (.ix ((s3_0-1):Int).toNat) (.ex (zaa) fun xd1 => .op 23 9 (.row ((s3_0-1):Int).toNat (zaa.enc xd1)) (.op 23 12 (.ix (s3_0:Int).toNat) (.ex (zaa) fun xd2 => .op 23 13 (.row (s3_0:Int).toNat (zaa.enc xd2)) (.op 23 14 (.ix (s3_0:Int).toNat) (.op 23 15 (.row (s3_0:Int).toNat (zaa.enc xd2)) (.rw 620 (((s3_1.set (s3_0:Int).toNat xd1):List zaa).map zaa.enc) (.op 23 16 (.ix ((s3_0-1):Int).toNat) (.ex (zaa) fun xd3 => .op 23 17 (.row ((s3_0-1):Int).toNat (zaa.enc xd3)) (.rw 620 ((((s3_1.set (s3_0:Int).toNat xd1).set ((s3_0-1):Int).toNat xd2):List zaa).map zaa.enc) (.op 22 1 (.nw) (.round [.keep [0,14,17] [620]])))))))))))))) (.ret [.keep [] [620]] s3_1)
theorem zad_l3 {y1 Q0_ s3_0 s3_1} (h:zad_w3 y1 (zad_L3 y1 Q0_) Q0_ s3_0 s3_1):zad_L3 y1 Q0_ s3_0 s3_1:=LW_runT _ (zad_h3 y1 s3_0 s3_1) h (by kernel_rfl)
def zad_s2 (a2:Int)(a0:(List zaa))(s2_0:Int)(s2_1:Int):St:=mkSt [(0,(.ref 620)),(2,(.t (i64 a2))),(4,(.fn 107 [])),(14,(.t (i64 s2_0))),(15,(.t (i64 s2_1)))] [(620,(.row 9 ((a0:List zaa).map zaa.enc)))] [620]
def zad_q2_0 (a2:Int)(a0:(List zaa))(y:Int):St:=mkSt [(0,(.ref 620)),(2,(.t (i64 a2))),(14,(.t (i64 y)))] [(620,(.row 9 ((a0:List zaa).map zaa.enc)))] [620]
def zad_x2_0 (a2:Int)(a0:(List zaa))(Q:Int→Prop)(y:Int):Prop:=Lf (.exit 4) (zad_q2_0 a2 a0) y (Q y)
def zad_L2 (a2:Int)(a0:(List zaa))(Q0_:Int→Prop)(s2_0:Int)(s2_1:Int):Prop:=LW Tryz.prog 220 (loopAt Tryz.f192 2) (Outs.K (.one (.exit 4) [.keep [0,2,14] [620]] (zad_q2_0 a2 a0) Q0_)) (zad_s2 a2 a0 s2_0 s2_1)
def zad_w2 (a2:Int)(a0:(List zaa))(X_:Int→Int→Prop)(Q0_:Int→Prop)(s2_0:Int)(s2_1:Int):Prop:=Br (decide (s2_0<s2_1)) (Num .i64 (s2_0+s2_1) (InL zaa.enc a0 a2 (∃ xc1:zaa,EltG zaa.enc a0 a2 xc1 (InL zaa.enc a0 (IntKind.wrap .i64 (Int.fdiv (IntKind.wrap .u64 (s2_0+s2_1)) 2)) (∃ xc2:zaa,EltG zaa.enc a0 (IntKind.wrap .i64 (Int.fdiv (IntKind.wrap .u64 (s2_0+s2_1)) 2)) xc2 (∃ rc3:Int,(zgq_r xc1 xc2 rc3)∧(Br (!(decide (rc3<0))) (Num .i64 ((IntKind.wrap .i64 (Int.fdiv (IntKind.wrap .u64 (s2_0+s2_1)) 2))+1) (X_ ((IntKind.wrap .i64 (Int.fdiv (IntKind.wrap .u64 (s2_0+s2_1)) 2))+1) s2_1)) (X_ s2_0 (IntKind.wrap .i64 (Int.fdiv (IntKind.wrap .u64 (s2_0+s2_1)) 2)))))))))) (zad_x2_0 a2 a0 Q0_ s2_0)
def zad_h2 (a2:Int)(a0:(List zaa))(s2_0:Int)(s2_1:Int):HT Int := .both 85 (.op 16 2 (.nw) (.op 17 3 (.ix (a2:Int).toNat) (.ex (zaa) fun xc1 => .op 17 4 (.row (a2:Int).toNat (zaa.enc xc1)) (.op 17 7 (.ix ((IntKind.wrap .i64 (Int.fdiv (IntKind.wrap .u64 (s2_0+s2_1)) 2)):Int).toNat) (.ex (zaa) fun xc2 => .op 17 8 (.row ((IntKind.wrap .i64 (Int.fdiv (IntKind.wrap .u64 (s2_0+s2_1)) 2)):Int).toNat (zaa.enc xc2)) (.ex (Int) fun rc3 => .op 17 9 (.call [] (.t (i64 rc3)) []) (.both 103 (.op 18 1 (.nw) (.round [.keep [0,2,4,14,15] [620]])) (.round [.keep [0,2,4,14,15] [620]])))))))) (.ret [.keep [0,2,14] [620]] s2_0)
theorem zad_l2 {a2 a0 Q0_ s2_0 s2_1} (h:zad_w2 a2 a0 (zad_L2 a2 a0 Q0_) Q0_ s2_0 s2_1):zad_L2 a2 a0 Q0_ s2_0 s2_1:=LW_runT _ (zad_h2 a2 a0 s2_0 s2_1) h (by kernel_rfl)
def zad_s1 (y1:Int)(s1_0:Int)(s1_1:(List zaa)):St:=mkSt [(0,(.ref 620)),(10,(.t (i64 y1))),(13,(.t (i64 s1_0)))] [(620,(.row 9 ((s1_1:List zaa).map zaa.enc)))] [620]
def zad_q1_0 (y1:Int)(y:(List zaa)):St:=mkSt [] [(620,(.row 9 ((y:List zaa).map zaa.enc)))] [620]
def zad_x1_0 (y1:Int)(Q:(List zaa)→Prop)(y:(List zaa)):Prop:=Lf (.exit 2) (zad_q1_0 y1) y (Q y)
def zad_L1 (y1:Int)(Q0_:(List zaa)→Prop)(s1_0:Int)(s1_1:(List zaa)):Prop:=LW Tryz.prog 220 (loopAt Tryz.f192 1) (Outs.K (.one (.exit 2) [.keep [] [620]] (zad_q1_0 y1) Q0_)) (zad_s1 y1 s1_0 s1_1)
def zad_w1 (y1:Int)(X_:Int→(List zaa)→Prop)(Q0_:(List zaa)→Prop)(s1_0:Int)(s1_1:(List zaa)):Prop:=Num .i64 (y1-1) (Br (decide (s1_0<(y1-1))) (Num .i64 (s1_0+1) (Num .i64 (s1_0+1) (InL zaa.enc s1_1 (s1_0+1) (∃ xb1:zaa,EltG zaa.enc s1_1 (s1_0+1) xb1 (InL zaa.enc s1_1 s1_0 (∃ xb2:zaa,EltG zaa.enc s1_1 s1_0 xb2 (InL zaa.enc s1_1 s1_0 (EltS zaa.enc s1_1 s1_0 xb2 xb1 (InL zaa.enc (s1_1.set (s1_0:Int).toNat xb1) (s1_0+1) (∃ xb3:zaa,EltS zaa.enc (s1_1.set (s1_0:Int).toNat xb1) (s1_0+1) xb3 xb2 (Num .i64 (s1_0+1) (X_ (s1_0+1) ((s1_1.set (s1_0:Int).toNat xb1).set ((s1_0+1):Int).toNat xb2))))))))))))) (zad_x1_0 y1 Q0_ s1_1))
def zad_h1 (y1:Int)(s1_0:Int)(s1_1:(List zaa)):HT (List zaa) := .op 9 2 (.nw) (.both 58 (.op 11 4 (.nw) (.op 11 7 (.nw) (.op 11 8 (.ix ((s1_0+1):Int).toNat) (.ex (zaa) fun xb1 => .op 11 9 (.row ((s1_0+1):Int).toNat (zaa.enc xb1)) (.op 11 12 (.ix (s1_0:Int).toNat) (.ex (zaa) fun xb2 => .op 11 13 (.row (s1_0:Int).toNat (zaa.enc xb2)) (.op 11 14 (.ix (s1_0:Int).toNat) (.op 11 15 (.row (s1_0:Int).toNat (zaa.enc xb2)) (.rw 620 (((s1_1.set (s1_0:Int).toNat xb1):List zaa).map zaa.enc) (.op 11 16 (.ix ((s1_0+1):Int).toNat) (.ex (zaa) fun xb3 => .op 11 17 (.row ((s1_0+1):Int).toNat (zaa.enc xb3)) (.rw 620 ((((s1_1.set (s1_0:Int).toNat xb1).set ((s1_0+1):Int).toNat xb2):List zaa).map zaa.enc) (.op 10 1 (.nw) (.round [.keep [0,10,13] [620]])))))))))))))) (.ret [.keep [] [620]] s1_1))
theorem zad_l1 {y1 Q0_ s1_0 s1_1} (h:zad_w1 y1 (zad_L1 y1 Q0_) Q0_ s1_0 s1_1):zad_L1 y1 Q0_ s1_0 s1_1:=LW_runT _ (zad_h1 y1 s1_0 s1_1) h (by kernel_rfl)
def zad_s0 (a1:Int)(a0:(List zaa))(s0_0:Int)(s0_1:Int):St:=mkSt [(0,(.ref 620)),(1,(.t (i64 a1))),(4,(.fn 107 [])),(10,(.t (i64 s0_0))),(11,(.t (i64 s0_1)))] [(620,(.row 9 ((a0:List zaa).map zaa.enc)))] [620]
def zad_q0_0 (a1:Int)(a0:(List zaa))(y:Int):St:=mkSt [(0,(.ref 620)),(1,(.t (i64 a1))),(10,(.t (i64 y)))] [(620,(.row 9 ((a0:List zaa).map zaa.enc)))] [620]
def zad_x0_0 (a1:Int)(a0:(List zaa))(Q:Int→Prop)(y:Int):Prop:=Lf (.exit 0) (zad_q0_0 a1 a0) y (Q y)
def zad_L0 (a1:Int)(a0:(List zaa))(Q0_:Int→Prop)(s0_0:Int)(s0_1:Int):Prop:=LW Tryz.prog 220 (loopAt Tryz.f192 0) (Outs.K (.one (.exit 0) [.keep [0,1,10] [620]] (zad_q0_0 a1 a0) Q0_)) (zad_s0 a1 a0 s0_0 s0_1)
def zad_w0 (a1:Int)(a0:(List zaa))(X_:Int→Int→Prop)(Q0_:Int→Prop)(s0_0:Int)(s0_1:Int):Prop:=Br (decide (s0_0<s0_1)) (Num .i64 (s0_0+s0_1) (InL zaa.enc a0 (IntKind.wrap .i64 (Int.fdiv (IntKind.wrap .u64 (s0_0+s0_1)) 2)) (∃ xa1:zaa,EltG zaa.enc a0 (IntKind.wrap .i64 (Int.fdiv (IntKind.wrap .u64 (s0_0+s0_1)) 2)) xa1 (InL zaa.enc a0 a1 (∃ xa2:zaa,EltG zaa.enc a0 a1 xa2 (∃ ra3:Int,(zgq_r xa1 xa2 ra3)∧(Br (decide (ra3<0)) (Num .i64 ((IntKind.wrap .i64 (Int.fdiv (IntKind.wrap .u64 (s0_0+s0_1)) 2))+1) (X_ ((IntKind.wrap .i64 (Int.fdiv (IntKind.wrap .u64 (s0_0+s0_1)) 2))+1) s0_1)) (X_ s0_0 (IntKind.wrap .i64 (Int.fdiv (IntKind.wrap .u64 (s0_0+s0_1)) 2)))))))))) (zad_x0_0 a1 a0 Q0_ s0_0)
def zad_h0 (a1:Int)(a0:(List zaa))(s0_0:Int)(s0_1:Int):HT Int := .both 33 (.op 4 2 (.nw) (.op 5 3 (.ix ((IntKind.wrap .i64 (Int.fdiv (IntKind.wrap .u64 (s0_0+s0_1)) 2)):Int).toNat) (.ex (zaa) fun xa1 => .op 5 4 (.row ((IntKind.wrap .i64 (Int.fdiv (IntKind.wrap .u64 (s0_0+s0_1)) 2)):Int).toNat (zaa.enc xa1)) (.op 5 7 (.ix (a1:Int).toNat) (.ex (zaa) fun xa2 => .op 5 8 (.row (a1:Int).toNat (zaa.enc xa2)) (.ex (Int) fun ra3 => .op 5 9 (.call [] (.t (i64 ra3)) []) (.both 50 (.op 6 1 (.nw) (.round [.keep [0,1,4,10,11] [620]])) (.round [.keep [0,1,4,10,11] [620]])))))))) (.ret [.keep [0,1,10] [620]] s0_0)
theorem zad_l0 {a1 a0 Q0_ s0_0 s0_1} (h:zad_w0 a1 a0 (zad_L0 a1 a0 Q0_) Q0_ s0_0 s0_1):zad_L0 a1 a0 Q0_ s0_0 s0_1:=LW_runT _ (zad_h0 a1 a0 s0_0 s0_1) h (by kernel_rfl)
def zad_R (v:(List zaa)):A:=(.tup [])
def zad_O (v:(List zaa)):List (Nat×O):=[(620,(.row 9 ((v:List zaa).map zaa.enc)))]
def zad_e (Q:(List zaa)→Prop)(v:(List zaa)):Prop:=Rt (zad_R) (zad_O) v (Q v)
def zad_r (a0:(List zaa))(a1:Int)(a2:Int)(a3:Int)(v:(List zaa)):Prop:=Con Tryz.prog 192 [(.ref 620),(.t (i64 a1)),(.t (i64 a2)),(.t (i64 a3)),(.fn 107 [])] [(620,(.row 9 ((a0:List zaa).map zaa.enc)))] (fun r_ o_=>r_=zad_R v∧o_=zad_O v)
def zad_j5s (a3:Int)(a1:Int)(a2:Int)(yj01:Int)(y_j4:(List zaa))(y_j5:Bool):St:=mkSt [(0,(.ref 620)),(3,(.t (i64 a3))),(4,(.fn 107 [])),(18,(.t (i64 (IntKind.wrap .i64 (Int.fdiv (IntKind.wrap .u64 (a1+a3)) 2))))),(24,(.t (i64 (((IntKind.wrap .i64 (Int.fdiv (IntKind.wrap .u64 (a1+a3)) 2))+a2)-yj01)))),(213,(.t (boo y_j5)))] [(620,(.row 9 ((y_j4:List zaa).map zaa.enc)))] [620]
def zad_j5 (a3:Int)(a1:Int)(a2:Int)(yj01:Int)(y_j4:(List zaa))(Q_:(List zaa)→Prop)(y_j5:Bool):Prop:=Jn (zad_j5s a3 a1 a2 yj01 y_j4 y_j5) (Br y_j5 (∃ rj51:(List zaa),(zad_r y_j4 (IntKind.wrap .i64 (Int.fdiv (IntKind.wrap .u64 (a1+a3)) 2)) (((IntKind.wrap .i64 (Int.fdiv (IntKind.wrap .u64 (a1+a3)) 2))+a2)-yj01) a3 rj51)∧(zad_e Q_ rj51)) (zad_e Q_ y_j4))
def zad_j5h (a3:Int)(a1:Int)(a2:Int)(yj01:Int)(y_j4:(List zaa))(y_j5:Bool):HT (List zaa) := .both 213 (.ex ((List zaa)) fun rj51 => .op 44 5 (.call [620] (.tup []) [(620,(.row 9 ((rj51:List zaa).map zaa.enc)))]) (.fin [] [] rj51)) (.fin [] [] y_j4)
def zad_j4s (a3:Int)(a1:Int)(a2:Int)(yj01:Int)(y_j4:(List zaa)):St:=mkSt [(0,(.ref 620)),(3,(.t (i64 a3))),(4,(.fn 107 [])),(18,(.t (i64 (IntKind.wrap .i64 (Int.fdiv (IntKind.wrap .u64 (a1+a3)) 2))))),(24,(.t (i64 (((IntKind.wrap .i64 (Int.fdiv (IntKind.wrap .u64 (a1+a3)) 2))+a2)-yj01))))] [(620,(.row 9 ((y_j4:List zaa).map zaa.enc)))] [620]
def zad_j4 (a3:Int)(a1:Int)(a2:Int)(yj01:Int)(Q_:(List zaa)→Prop)(y_j4:(List zaa)):Prop:=Jn (zad_j4s a3 a1 a2 yj01 y_j4) (Br (decide ((IntKind.wrap .i64 (Int.fdiv (IntKind.wrap .u64 (a1+a3)) 2))<(((IntKind.wrap .i64 (Int.fdiv (IntKind.wrap .u64 (a1+a3)) 2))+a2)-yj01))) (zad_j5 a3 a1 a2 yj01 y_j4 Q_ (decide ((((IntKind.wrap .i64 (Int.fdiv (IntKind.wrap .u64 (a1+a3)) 2))+a2)-yj01)<a3))) (zad_j5 a3 a1 a2 yj01 y_j4 Q_ false))
def zad_j4h (a3:Int)(a1:Int)(a2:Int)(yj01:Int)(y_j4:(List zaa)):HT (List zaa) := .bo 43 3 (.jn 8191 [.keep [0,3,4,18,24,213] [620]] (Bool) (zad_j5s a3 a1 a2 yj01 y_j4) (zad_j5h a3 a1 a2 yj01 y_j4) (decide ((((IntKind.wrap .i64 (Int.fdiv (IntKind.wrap .u64 (a1+a3)) 2))+a2)-yj01)<a3))) (.jn 8191 [.keep [0,3,4,18,24,213] [620]] (Bool) (zad_j5s a3 a1 a2 yj01 y_j4) (zad_j5h a3 a1 a2 yj01 y_j4) false)
def zad_j3s (a1:Int)(a3:Int)(yj01:Int)(a2:Int)(y_j2:(List zaa))(y_j3:Bool):St:=mkSt [(0,(.ref 620)),(1,(.t (i64 a1))),(3,(.t (i64 a3))),(4,(.fn 107 [])),(18,(.t (i64 (IntKind.wrap .i64 (Int.fdiv (IntKind.wrap .u64 (a1+a3)) 2))))),(20,(.t (i64 yj01))),(24,(.t (i64 (((IntKind.wrap .i64 (Int.fdiv (IntKind.wrap .u64 (a1+a3)) 2))+a2)-yj01)))),(199,(.t (boo y_j3)))] [(620,(.row 9 ((y_j2:List zaa).map zaa.enc)))] [620]
def zad_j3 (a1:Int)(a3:Int)(yj01:Int)(a2:Int)(y_j2:(List zaa))(Q_:(List zaa)→Prop)(y_j3:Bool):Prop:=Jn (zad_j3s a1 a3 yj01 a2 y_j2 y_j3) (Br y_j3 (∃ rj31:(List zaa),(zad_r y_j2 a1 yj01 (IntKind.wrap .i64 (Int.fdiv (IntKind.wrap .u64 (a1+a3)) 2)) rj31)∧(zad_j4 a3 a1 a2 yj01 Q_ rj31)) (zad_j4 a3 a1 a2 yj01 Q_ y_j2))
def zad_j3h (a1:Int)(a3:Int)(yj01:Int)(a2:Int)(y_j2:(List zaa))(y_j3:Bool):HT (List zaa) := .both 199 (.ex ((List zaa)) fun rj31 => .op 42 5 (.call [620] (.tup []) [(620,(.row 9 ((rj31:List zaa).map zaa.enc)))]) (.jn 4095 [.keep [0,3,4,18,24] [620]] ((List zaa)) (zad_j4s a3 a1 a2 yj01) (zad_j4h a3 a1 a2 yj01) rj31)) (.jn 4095 [.keep [0,3,4,18,24] [620]] ((List zaa)) (zad_j4s a3 a1 a2 yj01) (zad_j4h a3 a1 a2 yj01) y_j2)
def zad_j2s (a1:Int)(a3:Int)(yj01:Int)(a2:Int)(y_j2:(List zaa)):St:=mkSt [(0,(.ref 620)),(1,(.t (i64 a1))),(3,(.t (i64 a3))),(4,(.fn 107 [])),(18,(.t (i64 (IntKind.wrap .i64 (Int.fdiv (IntKind.wrap .u64 (a1+a3)) 2))))),(20,(.t (i64 yj01))),(24,(.t (i64 (((IntKind.wrap .i64 (Int.fdiv (IntKind.wrap .u64 (a1+a3)) 2))+a2)-yj01))))] [(620,(.row 9 ((y_j2:List zaa).map zaa.enc)))] [620]
def zad_j2 (a1:Int)(a3:Int)(yj01:Int)(a2:Int)(Q_:(List zaa)→Prop)(y_j2:(List zaa)):Prop:=Jn (zad_j2s a1 a3 yj01 a2 y_j2) (Br (decide (a1<yj01)) (zad_j3 a1 a3 yj01 a2 y_j2 Q_ (decide (yj01<(IntKind.wrap .i64 (Int.fdiv (IntKind.wrap .u64 (a1+a3)) 2))))) (zad_j3 a1 a3 yj01 a2 y_j2 Q_ false))
def zad_j2h (a1:Int)(a3:Int)(yj01:Int)(a2:Int)(y_j2:(List zaa)):HT (List zaa) := .bo 41 3 (.jn 8189 [.keep [0,1,3,4,18,20,24,199] [620]] (Bool) (zad_j3s a1 a3 yj01 a2 y_j2) (zad_j3h a1 a3 yj01 a2 y_j2) (decide (yj01<(IntKind.wrap .i64 (Int.fdiv (IntKind.wrap .u64 (a1+a3)) 2))))) (.jn 8189 [.keep [0,1,3,4,18,20,24,199] [620]] (Bool) (zad_j3s a1 a3 yj01 a2 y_j2) (zad_j3h a1 a3 yj01 a2 y_j2) false)
def zad_j1s (a1:Int)(a2:Int)(a3:Int)(yj01:Int)(a0:(List zaa))(y_j1:Bool):St:=mkSt [(0,(.ref 620)),(1,(.t (i64 a1))),(2,(.t (i64 a2))),(3,(.t (i64 a3))),(4,(.fn 107 [])),(18,(.t (i64 (IntKind.wrap .i64 (Int.fdiv (IntKind.wrap .u64 (a1+a3)) 2))))),(20,(.t (i64 yj01))),(24,(.t (i64 (((IntKind.wrap .i64 (Int.fdiv (IntKind.wrap .u64 (a1+a3)) 2))+a2)-yj01)))),(185,(.t (boo y_j1)))] [(620,(.row 9 ((a0:List zaa).map zaa.enc)))] [620]
def zad_j1 (a1:Int)(a2:Int)(a3:Int)(yj01:Int)(a0:(List zaa))(Q_:(List zaa)→Prop)(y_j1:Bool):Prop:=Jn (zad_j1s a1 a2 a3 yj01 a0 y_j1) (Br y_j1 (∃ rj11:(List zaa),(zas_r a0 yj01 a2 (((IntKind.wrap .i64 (Int.fdiv (IntKind.wrap .u64 (a1+a3)) 2))+a2)-yj01) rj11)∧(zad_j2 a1 a3 yj01 a2 Q_ rj11)) (zad_j2 a1 a3 yj01 a2 Q_ a0))
def zad_j1h (a1:Int)(a2:Int)(a3:Int)(yj01:Int)(a0:(List zaa))(y_j1:Bool):HT (List zaa) := .both 185 (.ex ((List zaa)) fun rj11 => .op 40 5 (.call [620] (.tup []) [(620,(.row 9 ((rj11:List zaa).map zaa.enc)))]) (.jn 2047 [.keep [0,1,3,4,18,20,24] [620]] ((List zaa)) (zad_j2s a1 a3 yj01 a2) (zad_j2h a1 a3 yj01 a2) rj11)) (.jn 2047 [.keep [0,1,3,4,18,20,24] [620]] ((List zaa)) (zad_j2s a1 a3 yj01 a2) (zad_j2h a1 a3 yj01 a2) a0)
def zad_j0s (a1:Int)(a2:Int)(a3:Int)(a0:(List zaa))(y_j0:Int×Int):St:=mkSt [(0,(.ref 620)),(1,(.t (i64 a1))),(2,(.t (i64 a2))),(3,(.t (i64 a3))),(4,(.fn 107 [])),(18,(.t (i64 (IntKind.wrap .i64 (Int.fdiv (IntKind.wrap .u64 (a1+a3)) 2))))),(19,(.t (i64 ((IntKind.wrap .i64 (Int.fdiv (IntKind.wrap .u64 (a1+a3)) 2))+a2)))),(20,(.t (i64 y_j0.1))),(21,(.t (i64 y_j0.2)))] [(620,(.row 9 ((a0:List zaa).map zaa.enc)))] [620]
def zad_j0 (a1:Int)(a2:Int)(a3:Int)(a0:(List zaa))(Q_:(List zaa)→Prop)(y_j0:Int×Int):Prop:=Jn (zad_j0s a1 a2 a3 a0 y_j0) (Num .i64 (((IntKind.wrap .i64 (Int.fdiv (IntKind.wrap .u64 (a1+a3)) 2))+a2)-1) (zad_L4 a1 a2 a3 a0 (fun (yj01:Int)=>Num .i64 (((IntKind.wrap .i64 (Int.fdiv (IntKind.wrap .u64 (a1+a3)) 2))+a2)-yj01) (Br (decide (yj01<a2)) (zad_j1 a1 a2 a3 yj01 a0 Q_ (decide (a2<(((IntKind.wrap .i64 (Int.fdiv (IntKind.wrap .u64 (a1+a3)) 2))+a2)-yj01)))) (zad_j1 a1 a2 a3 yj01 a0 Q_ false))) y_j0.1 y_j0.2))
def zad_j0h (a1:Int)(a2:Int)(a3:Int)(a0:(List zaa))(y_j0:Int×Int):HT (List zaa) := .op 32 1 (.nw) (.loop [.keep [0,1,2,3,4,18,19,20,21,22] [620]] (.out (Int) (.exit 8) [.keep [0,1,2,3,4,18,19,20] [620]] (zad_q4_0 a1 a2 a3 a0) (fun yj01 => .op 38 2 (.nw) (.bo 39 3 (.jn 4093 [.keep [0,1,2,3,4,18,20,24,185] [620]] (Bool) (zad_j1s a1 a2 a3 yj01 a0) (zad_j1h a1 a2 a3 yj01 a0) (decide (a2<(((IntKind.wrap .i64 (Int.fdiv (IntKind.wrap .u64 (a1+a3)) 2))+a2)-yj01)))) (.jn 4093 [.keep [0,1,2,3,4,18,20,24,185] [620]] (Bool) (zad_j1s a1 a2 a3 yj01 a0) (zad_j1h a1 a2 a3 yj01 a0) false))) (.nil)))
def zad_w (a0:(List zaa))(a1:Int)(a2:Int)(a3:Int)(Q_:(List zaa)→Prop):Prop:=Num .i64 (a2-a1) (Br ((a2-a1)==1) (zad_L0 a1 a0 (fun (y1:Int)=>zad_L1 y1 (fun (y2:(List zaa))=>zad_e Q_ y2) a1 a0) a2 a3) (Num .i64 (a3-a2) (Br ((a3-a2)==1) (zad_L2 a2 a0 (fun (y1:Int)=>zad_L3 y1 (fun (y2:(List zaa))=>zad_e Q_ y2) a2 a0) a1 a2) (Num .i64 (a1+a3) (Num .i64 ((IntKind.wrap .i64 (Int.fdiv (IntKind.wrap .u64 (a1+a3)) 2))+a2) (Br (decide (a2>(IntKind.wrap .i64 (Int.fdiv (IntKind.wrap .u64 (a1+a3)) 2)))) (Num .i64 (((IntKind.wrap .i64 (Int.fdiv (IntKind.wrap .u64 (a1+a3)) 2))+a2)-a3) (zad_j0 a1 a2 a3 a0 Q_ ((((IntKind.wrap .i64 (Int.fdiv (IntKind.wrap .u64 (a1+a3)) 2))+a2)-a3),(IntKind.wrap .i64 (Int.fdiv (IntKind.wrap .u64 (a1+a3)) 2))))) (zad_j0 a1 a2 a3 a0 Q_ (a1,a2))))))))
def zad_h (a0:(List zaa))(a1:Int)(a2:Int)(a3:Int):HT (List zaa) := .op 0 2 (.nw) (.both 28 (.loop [.keep [0,1,4,10,11] [620]] (.out (Int) (.exit 0) [.keep [0,1,10] [620]] (zad_q0_0 a1 a0) (fun y1 => .loop [.keep [0,10,13] [620]] (.out ((List zaa)) (.exit 2) [.keep [] [620]] (zad_q1_0 y1) (fun y2 => .fin [] [] y2) (.nil))) (.nil))) (.op 12 2 (.nw) (.both 80 (.loop [.keep [0,2,4,14,15] [620]] (.out (Int) (.exit 4) [.keep [0,2,14] [620]] (zad_q2_0 a2 a0) (fun y1 => .loop [.keep [0,14,17] [620]] (.out ((List zaa)) (.exit 6) [.keep [] [620]] (zad_q3_0 y1) (fun y2 => .fin [] [] y2) (.nil))) (.nil))) (.op 24 2 (.nw) (.op 25 2 (.nw) (.both 140 (.op 28 2 (.nw) (.jn 127 [.keep [0,1,2,3,4,18,19,20,21] [620]] (Int×Int) (zad_j0s a1 a2 a3 a0) (zad_j0h a1 a2 a3 a0) ((((IntKind.wrap .i64 (Int.fdiv (IntKind.wrap .u64 (a1+a3)) 2))+a2)-a3),(IntKind.wrap .i64 (Int.fdiv (IntKind.wrap .u64 (a1+a3)) 2))))) (.jn 127 [.keep [0,1,2,3,4,18,19,20,21] [620]] (Int×Int) (zad_j0s a1 a2 a3 a0) (zad_j0h a1 a2 a3 a0) (a1,a2))))))))
theorem zad_of {a0 a1 a2 a3 v} (h:zad_w a0 a1 a2 a3 (fun v_=>v_=v)):zad_r a0 a1 a2 a3 v:=Con_of1 Tryz.call192 Tryz.func192 [620] (zad_h a0 a1 a2 a3) h
def zaf_s2 (a1:Int)(s1_0:Int)(s2_0:Int)(s2_1:Int)(s2_2:(List zaa)):St:=mkSt [(0,(.ref 620)),(1,(.t (i64 a1))),(2,(.fn 107 [])),(6,(.t (i64 s1_0))),(7,(.t (i64 s2_0))),(8,(.t (i64 s2_1)))] [(620,(.row 9 ((s2_2:List zaa).map zaa.enc)))] [620]
def zaf_q2_0 (a1:Int)(s1_0:Int)(y:Int×(List zaa)):St:=mkSt [(0,(.ref 620)),(1,(.t (i64 a1))),(2,(.fn 107 [])),(6,(.t (i64 s1_0))),(7,(.t (i64 y.1)))] [(620,(.row 9 ((y.2:List zaa).map zaa.enc)))] [620]
def zaf_x2_0 (a1:Int)(s1_0:Int)(Q:(Int×(List zaa))→Prop)(y:Int×(List zaa)):Prop:=Lf (.exit 4) (zaf_q2_0 a1 s1_0) y (Q y)
def zaf_L2 (a1:Int)(s1_0:Int)(Q0_:(Int×(List zaa))→Prop)(s2_0:Int)(s2_1:Int)(s2_2:(List zaa)):Prop:=LW Tryz.prog 63 (loopAt Tryz.f156 2) (Outs.K (.one (.exit 4) [.keep [0,1,2,6,7] [620]] (zaf_q2_0 a1 s1_0) Q0_)) (zaf_s2 a1 s1_0 s2_0 s2_1 s2_2)
def zaf_w2 (a1:Int)(s1_0:Int)(X_:Int→Int→(List zaa)→Prop)(Q0_:(Int×(List zaa))→Prop)(s2_0:Int)(s2_1:Int)(s2_2:(List zaa)):Prop:=Br (decide (s2_1≤a1)) (Num .i64 (s2_0+s1_0) (∃ rc1:(List zaa),(zad_r s2_2 s2_0 (s2_0+s1_0) s2_1 rc1)∧(Num .i64 (2*s1_0) (Num .i64 (s2_1+(2*s1_0)) (X_ s2_1 (s2_1+(2*s1_0)) rc1))))) (zaf_x2_0 a1 s1_0 Q0_ (s2_0,s2_2))
def zaf_h2 (a1:Int)(s1_0:Int)(s2_0:Int)(s2_1:Int)(s2_2:(List zaa)):HT (Int×(List zaa)) := .both 35 (.op 10 4 (.nw) (.ex ((List zaa)) fun rc1 => .op 10 7 (.call [620] (.tup []) [(620,(.row 9 ((rc1:List zaa).map zaa.enc)))]) (.op 12 2 (.nw) (.op 12 3 (.nw) (.round [.keep [0,1,2,6,7,8] [620]]))))) (.ret [.keep [0,1,2,6,7] [620]] (s2_0,s2_2))
theorem zaf_l2 {a1 s1_0 Q0_ s2_0 s2_1 s2_2} (h:zaf_w2 a1 s1_0 (zaf_L2 a1 s1_0 Q0_) Q0_ s2_0 s2_1 s2_2):zaf_L2 a1 s1_0 Q0_ s2_0 s2_1 s2_2:=LW_runT _ (zaf_h2 a1 s1_0 s2_0 s2_1 s2_2) h (by kernel_rfl)
def zaf_s1 (a1:Int)(s1_0:Int)(s1_1:(List zaa)):St:=mkSt [(0,(.ref 620)),(1,(.t (i64 a1))),(2,(.fn 107 [])),(6,(.t (i64 s1_0)))] [(620,(.row 9 ((s1_1:List zaa).map zaa.enc)))] [620]
def zaf_q1_0 (a1:Int)(y:(List zaa)):St:=mkSt [] [(620,(.row 9 ((y:List zaa).map zaa.enc)))] [620]
def zaf_x1_0 (a1:Int)(Q:(List zaa)→Prop)(y:(List zaa)):Prop:=Lf (.exit 2) (zaf_q1_0 a1) y (Q y)
def zaf_L1 (a1:Int)(Q0_:(List zaa)→Prop)(s1_0:Int)(s1_1:(List zaa)):Prop:=LW Tryz.prog 63 (loopAt Tryz.f156 1) (Outs.K (.one (.exit 2) [.keep [] [620]] (zaf_q1_0 a1) Q0_)) (zaf_s1 a1 s1_0 s1_1)
def zaf_w1 (a1:Int)(X_:Int→(List zaa)→Prop)(Q0_:(List zaa)→Prop)(s1_0:Int)(s1_1:(List zaa)):Prop:=Br (decide (s1_0<a1)) (Num .i64 (2*s1_0) (zaf_L2 a1 s1_0 (fun (yb1:Int×(List zaa))=>Num .i64 (yb1.1+s1_0) (Br (decide ((yb1.1+s1_0)<a1)) (∃ rb2:(List zaa),(zad_r yb1.2 yb1.1 (yb1.1+s1_0) a1 rb2)∧(Num .i64 (s1_0*2) (X_ (s1_0*2) rb2))) (Num .i64 (s1_0*2) (X_ (s1_0*2) yb1.2)))) 0 (2*s1_0) s1_1)) (zaf_x1_0 a1 Q0_ s1_1)
def zaf_h1 (a1:Int)(s1_0:Int)(s1_1:(List zaa)):HT (List zaa) := .both 30 (.op 8 1 (.nw) (.loop [.keep [0,1,2,6,7,8] [620]] (.out (Int×(List zaa)) (.exit 4) [.keep [0,1,2,6,7] [620]] (zaf_q2_0 a1 s1_0) (fun yb1 => .op 13 2 (.nw) (.both 54 (.ex ((List zaa)) fun rb2 => .op 15 5 (.call [620] (.tup []) [(620,(.row 9 ((rb2:List zaa).map zaa.enc)))]) (.op 16 1 (.nw) (.round [.keep [0,1,2,6] [620]]))) (.op 16 1 (.nw) (.round [.keep [0,1,2,6] [620]])))) (.nil)))) (.ret [.keep [] [620]] s1_1)
theorem zaf_l1 {a1 Q0_ s1_0 s1_1} (h:zaf_w1 a1 (zaf_L1 a1 Q0_) Q0_ s1_0 s1_1):zaf_L1 a1 Q0_ s1_0 s1_1:=LW_runT _ (zaf_h1 a1 s1_0 s1_1) h (by kernel_rfl)
def zaf_s0 (a1:Int)(s0_0:Int)(s0_1:Int)(s0_2:(List zaa)):St:=mkSt [(0,(.ref 620)),(1,(.t (i64 a1))),(2,(.fn 107 [])),(6,(.t (i64 20))),(7,(.t (i64 s0_0))),(8,(.t (i64 s0_1)))] [(620,(.row 9 ((s0_2:List zaa).map zaa.enc)))] [620]
def zaf_q0_0 (a1:Int)(y:Int×(List zaa)):St:=mkSt [(0,(.ref 620)),(1,(.t (i64 a1))),(2,(.fn 107 [])),(6,(.t (i64 20))),(7,(.t (i64 y.1)))] [(620,(.row 9 ((y.2:List zaa).map zaa.enc)))] [620]
def zaf_x0_0 (a1:Int)(Q:(Int×(List zaa))→Prop)(y:Int×(List zaa)):Prop:=Lf (.exit 0) (zaf_q0_0 a1) y (Q y)
def zaf_L0 (a1:Int)(Q0_:(Int×(List zaa))→Prop)(s0_0:Int)(s0_1:Int)(s0_2:(List zaa)):Prop:=LW Tryz.prog 63 (loopAt Tryz.f156 0) (Outs.K (.one (.exit 0) [.keep [0,1,2,6,7] [620]] (zaf_q0_0 a1) Q0_)) (zaf_s0 a1 s0_0 s0_1 s0_2)
def zaf_w0 (a1:Int)(X_:Int→Int→(List zaa)→Prop)(Q0_:(Int×(List zaa))→Prop)(s0_0:Int)(s0_1:Int)(s0_2:(List zaa)):Prop:=Br (decide (s0_1≤a1)) (∃ ra1:(List zaa),(zai_r s0_2 s0_0 s0_1 ra1)∧(Num .i64 (s0_1+20) (X_ s0_1 (s0_1+20) ra1))) (zaf_x0_0 a1 Q0_ (s0_0,s0_2))
def zaf_h0 (a1:Int)(s0_0:Int)(s0_1:Int)(s0_2:(List zaa)):HT (Int×(List zaa)) := .both 13 (.ex ((List zaa)) fun ra1 => .op 3 4 (.call [620] (.tup []) [(620,(.row 9 ((ra1:List zaa).map zaa.enc)))]) (.op 5 2 (.nw) (.round [.keep [0,1,2,6,7,8] [620]]))) (.ret [.keep [0,1,2,6,7] [620]] (s0_0,s0_2))
theorem zaf_l0 {a1 Q0_ s0_0 s0_1 s0_2} (h:zaf_w0 a1 (zaf_L0 a1 Q0_) Q0_ s0_0 s0_1 s0_2):zaf_L0 a1 Q0_ s0_0 s0_1 s0_2:=LW_runT _ (zaf_h0 a1 s0_0 s0_1 s0_2) h (by kernel_rfl)
def zaf_R (v:(List zaa)):A:=(.tup [])
def zaf_O (v:(List zaa)):List (Nat×O):=[(620,(.row 9 ((v:List zaa).map zaa.enc)))]
def zaf_e (Q:(List zaa)→Prop)(v:(List zaa)):Prop:=Rt (zaf_R) (zaf_O) v (Q v)
def zaf_r (a0:(List zaa))(a1:Int)(v:(List zaa)):Prop:=Con Tryz.prog 156 [(.ref 620),(.t (i64 a1)),(.fn 107 [])] [(620,(.row 9 ((a0:List zaa).map zaa.enc)))] (fun r_ o_=>r_=zaf_R v∧o_=zaf_O v)
def zaf_w (a0:(List zaa))(a1:Int)(Q_:(List zaa)→Prop):Prop:=zaf_L0 a1 (fun (y1:Int×(List zaa))=>∃ r2:(List zaa),(zai_r y1.2 y1.1 a1 r2)∧(zaf_L1 a1 (fun (y3:(List zaa))=>zaf_e Q_ y3) 20 r2)) 0 20 a0
def zaf_h (a0:(List zaa))(a1:Int):HT (List zaa) := .loop [.keep [0,1,2,6,7,8] [620]] (.out (Int×(List zaa)) (.exit 0) [.keep [0,1,2,6,7] [620]] (zaf_q0_0 a1) (fun y1 => .ex ((List zaa)) fun r2 => .op 6 4 (.call [620] (.tup []) [(620,(.row 9 ((r2:List zaa).map zaa.enc)))]) (.loop [.keep [0,1,2,6] [620]] (.out ((List zaa)) (.exit 2) [.keep [] [620]] (zaf_q1_0 a1) (fun y3 => .fin [] [] y3) (.nil)))) (.nil))
theorem zaf_of {a0 a1 v} (h:zaf_w a0 a1 (fun v_=>v_=v)):zaf_r a0 a1 v:=Con_of1 Tryz.call156 Tryz.func156 [620] (zaf_h a0 a1) h
def zbk_R (v:(List zaa)):A:=(.tup [])
def zbk_O (v:(List zaa)):List (Nat×O):=[(620,(.row 9 ((v:List zaa).map zaa.enc)))]
def zbk_e (Q:(List zaa)→Prop)(v:(List zaa)):Prop:=Rt (zbk_R) (zbk_O) v (Q v)
def zbk_r (a0:(List zaa))(v:(List zaa)):Prop:=Con Tryz.prog 106 [(.ref 620),(.fn 107 [])] [(620,(.row 9 ((a0:List zaa).map zaa.enc)))] (fun r_ o_=>r_=zbk_R v∧o_=zbk_O v)
def zbk_w (a0:(List zaa))(Q_:(List zaa)→Prop):Prop:=∃ r1:(List zaa),(zaf_r a0 (lenM zaa.enc a0) r1)∧(zbk_e Q_ r1)
def zbk_h (a0:(List zaa)):HT (List zaa) := .ex ((List zaa)) fun r1 => .op 0 4 (.call [620] (.tup []) [(620,(.row 9 ((r1:List zaa).map zaa.enc)))]) (.fin [] [] r1)
theorem zbk_of {a0 v} (h:zbk_w a0 (fun v_=>v_=v)):zbk_r a0 v:=Con_of1 Tryz.call106 Tryz.func106 [620] (zbk_h a0) h
def zgw_R (v:(List zaa)):A:=(.t (.sl 9 ((v:List zaa).map zaa.enc)))
def zgw_O (v:(List zaa)):List (Nat×O):=[]
def zgw_e (Q:(List zaa)→Prop)(v:(List zaa)):Prop:=Rt (zgw_R) (zgw_O) v (Q v)
def zgw_r (a0:(List zaa))(v:(List zaa)):Prop:=Con Tryz.prog 59 [(.t (.sl 9 ((a0:List zaa).map zaa.enc)))] [] (fun r_ o_=>r_=zgw_R v∧o_=zgw_O v)
def zgw_w (a0:(List zaa))(Q_:(List zaa)→Prop):Prop:=∃ r1:(List zaa),(CloneR Tryz.prog 105 9 zaa.enc a0 r1)∧(∃ r2:(List zaa),(zbk_r r1 r2)∧(zgw_e Q_ r2))
def zgw_h (a0:(List zaa)):HT (List zaa) := .ex ((List zaa)) fun r1 => .op 1 1 (.call [] (.ref 1600) [(1600,(.row 9 ((r1:List zaa).map zaa.enc)))]) (.reg 2 [.ren 1600 620] [] (.ex ((List zaa)) fun r2 => .op 2 1 (.call [620] (.tup []) [(620,(.row 9 ((r2:List zaa).map zaa.enc)))]) (.fin [] [] r2)))
theorem zgw_of {a0 v} (h:zgw_w a0 (fun v_=>v_=v)):zgw_r a0 v:=Con_of1 Tryz.call59 Tryz.func59 [] (zgw_h a0) h
def zev_R (v:Bool):A:=(.t (boo v))
def zev_O (v:Bool):List (Nat×O):=[]
def zev_e (Q:Bool→Prop)(v:Bool):Prop:=Rt (zev_R) (zev_O) v (Q v)
def zev_r (a0:zac)(a1:zac)(v:Bool):Prop:=Con Tryz.prog 128 [(.agg [(.t (str a0.Lot.ISIN)),(.t (i64 a0.Lot.Qty)),(.t (str a0.Asset.ISIN)),(.t (i64 a0.Asset.Issuer)),(.t (i64 a0.Asset.Rating)),(.t (i64 a0.Asset.Maturity)),(.t (str a0.Asset.Currency)),(.t (i64 a0.Price)),(.t (i64 a0.Cut))]),(.agg [(.t (str a1.Lot.ISIN)),(.t (i64 a1.Lot.Qty)),(.t (str a1.Asset.ISIN)),(.t (i64 a1.Asset.Issuer)),(.t (i64 a1.Asset.Rating)),(.t (i64 a1.Asset.Maturity)),(.t (str a1.Asset.Currency)),(.t (i64 a1.Price)),(.t (i64 a1.Cut))])] [] (fun r_ o_=>r_=zev_R v∧o_=zev_O v)
def zev_w (a0:zac)(a1:zac)(Q_:Bool→Prop):Prop:=Br (a0.Cut != a1.Cut) (zev_e Q_ (decide (a0.Cut<a1.Cut))) (Br (a0.Asset.Maturity != a1.Asset.Maturity) (zev_e Q_ (decide (a0.Asset.Maturity<a1.Asset.Maturity))) (zev_e Q_ (strLt a0.Lot.ISIN a1.Lot.ISIN)))
def zev_h (a0:zac)(a1:zac):HT Bool := .both 9 (.fin [] [] (decide (a0.Cut<a1.Cut))) (.both 21 (.fin [] [] (decide (a0.Asset.Maturity<a1.Asset.Maturity))) (.fin [] [] (strLt a0.Lot.ISIN a1.Lot.ISIN)))
theorem zev_of {a0 a1 v} (h:zev_w a0 a1 (fun v_=>v_=v)):zev_r a0 a1 v:=Con_of1 Tryz.call128 Tryz.func128 [] (zev_h a0 a1) h
def zaz_s1 (a0:(List zac))(s0_0:Int)(s0_1:(List zac))(s1_0:Int):St:=mkSt [(0,(.t (.sl 9 ((a0:List zac).map zac.enc)))),(3,(.ref 47)),(4,(.t (i64 s0_0))),(5,(.t (i64 s1_0)))] [(47,(.row 9 ((s0_1:List zac).map zac.enc)))] []
def zaz_q1_0 (a0:(List zac))(s0_0:Int)(s0_1:(List zac))(y:Int):St:=mkSt [(0,(.t (.sl 9 ((a0:List zac).map zac.enc)))),(3,(.ref 47)),(4,(.t (i64 s0_0))),(5,(.t (i64 y)))] [(47,(.row 9 ((s0_1:List zac).map zac.enc)))] []
def zaz_x1_0 (a0:(List zac))(s0_0:Int)(s0_1:(List zac))(Q:Int→Prop)(y:Int):Prop:=Lf (.exit 2) (zaz_q1_0 a0 s0_0 s0_1) y (Q y)
def zaz_L1 (a0:(List zac))(s0_0:Int)(s0_1:(List zac))(Q0_:Int→Prop)(s1_0:Int):Prop:=LW Tryz.prog 49 (loopAt Tryz.f75 1) (Outs.K (.one (.exit 2) [.keep [0,3,4,5] [47]] (zaz_q1_0 a0 s0_0 s0_1) Q0_)) (zaz_s1 a0 s0_0 s0_1 s1_0)
def zaz_w1 (a0:(List zac))(s0_0:Int)(s0_1:(List zac))(X_:Int→Prop)(Q0_:Int→Prop)(s1_0:Int):Prop:=Br (decide (s1_0>0)) (∃ xb1:zac,Got zac.enc a0 s0_0 xb1 (Num .i64 (s1_0-1) (InL zac.enc s0_1 (s1_0-1) (∃ xb2:zac,EltG zac.enc s0_1 (s1_0-1) xb2 (∃ rb3:Bool,(zev_r xb1 xb2 rb3)∧(Br rb3 (Num .i64 (s1_0-1) (X_ (s1_0-1))) (zaz_x1_0 a0 s0_0 s0_1 Q0_ s1_0))))))) (zaz_x1_0 a0 s0_0 s0_1 Q0_ s1_0)
def zaz_h1 (a0:(List zac))(s0_0:Int)(s0_1:(List zac))(s1_0:Int):HT Int := .bo 6 2 (.ex (zac) fun xb1 => .op 6 5 (.row (s0_0:Int).toNat (zac.enc xb1)) (.op 6 9 (.nw) (.op 6 10 (.ix ((s1_0-1):Int).toNat) (.ex (zac) fun xb2 => .op 6 11 (.row ((s1_0-1):Int).toNat (zac.enc xb2)) (.ex (Bool) fun rb3 => .op 6 12 (.call [] (.t (boo rb3)) []) (.both 28 (.op 7 1 (.nw) (.round [.keep [0,3,4,5] [47]])) (.ret [.keep [0,3,4,5] [47]] s1_0))))))) (.ret [.keep [0,3,4,5] [47]] s1_0)
theorem zaz_l1 {a0 s0_0 s0_1 Q0_ s1_0} (h:zaz_w1 a0 s0_0 s0_1 (zaz_L1 a0 s0_0 s0_1 Q0_) Q0_ s1_0):zaz_L1 a0 s0_0 s0_1 Q0_ s1_0:=LW_runT _ (zaz_h1 a0 s0_0 s0_1 s1_0) h (by kernel_rfl)
def zaz_s0 (a0:(List zac))(s0_0:Int)(s0_1:(List zac)):St:=mkSt [(0,(.t (.sl 9 ((a0:List zac).map zac.enc)))),(3,(.ref 47)),(4,(.t (i64 s0_0)))] [(47,(.row 9 ((s0_1:List zac).map zac.enc)))] []
def zaz_q0_0 (a0:(List zac))(y:(List zac)):St:=mkSt [(3,(.ref 47))] [(47,(.row 9 ((y:List zac).map zac.enc)))] []
def zaz_x0_0 (a0:(List zac))(Q:(List zac)→Prop)(y:(List zac)):Prop:=Lf (.exit 0) (zaz_q0_0 a0) y (Q y)
def zaz_L0 (a0:(List zac))(Q0_:(List zac)→Prop)(s0_0:Int)(s0_1:(List zac)):Prop:=LW Tryz.prog 49 (loopAt Tryz.f75 0) (Outs.K (.one (.exit 0) [.keep [3] [47]] (zaz_q0_0 a0) Q0_)) (zaz_s0 a0 s0_0 s0_1)
def zaz_w0 (a0:(List zac))(X_:Int→(List zac)→Prop)(Q0_:(List zac)→Prop)(s0_0:Int)(s0_1:(List zac)):Prop:=Br (decide (s0_0<(lenM zac.enc a0))) (zaz_L1 a0 s0_0 s0_1 (fun (ya1:Int)=>CutLh zac.enc s0_1 ya1 (ApZ 96 zac.enc (s0_1.take (ya1:Int).toNat) (∃ xa2:zac,Got zac.enc a0 s0_0 xa2 (App2 96 zac.enc (s0_1.take (ya1:Int).toNat) [xa2] (CutLl zac.enc s0_1 ya1 (App2 96 zac.enc ((s0_1.take (ya1:Int).toNat)++[xa2]) (s0_1.drop (ya1:Int).toNat) (Num .i64 (s0_0+1) (X_ (s0_0+1) (((s0_1.take (ya1:Int).toNat)++[xa2])++(s0_1.drop (ya1:Int).toNat)))))))))) (lenM zac.enc s0_1)) (zaz_x0_0 a0 Q0_ s0_1)
def zaz_h0 (a0:(List zac))(s0_0:Int)(s0_1:(List zac)):HT (List zac) := .both 10 (.loop [.keep [0,3,4,5] [47]] (.out (Int) (.exit 2) [.keep [0,3,4,5] [47]] (zaz_q1_0 a0 s0_0 s0_1) (fun ya1 => .reg 8 [.frz 47] [] (.op 8 3 (.cut 0 (ya1:Int).toNat) (.rwS 34 (((s0_1.take (ya1:Int).toNat):List zac).map zac.enc) (.op 8 4 (.no) (.ex (zac) fun xa2 => .op 9 3 (.row (s0_0:Int).toNat (zac.enc xa2)) (.op 9 6 (.no) (.rw 42 ((((s0_1.take (ya1:Int).toNat)++[xa2]):List zac).map zac.enc) (.op 10 3 (.cut (ya1:Int).toNat ((s0_1:List zac).map zac.enc).length) (.rwS 46 (((s0_1.drop (ya1:Int).toNat):List zac).map zac.enc) (.op 10 4 (.no) (.rw 47 (((((s0_1.take (ya1:Int).toNat)++[xa2])++(s0_1.drop (ya1:Int).toNat)):List zac).map zac.enc) (.op 4 1 (.nw) (.round [.keep [0,3,4] [47]]))))))))))))) (.nil))) (.ret [.keep [3] [47]] s0_1)
theorem zaz_l0 {a0 Q0_ s0_0 s0_1} (h:zaz_w0 a0 (zaz_L0 a0 Q0_) Q0_ s0_0 s0_1):zaz_L0 a0 Q0_ s0_0 s0_1:=LW_runT _ (zaz_h0 a0 s0_0 s0_1) h (by kernel_rfl)
def zaz_R (v:(List zac)):A:=(.t (.sl 9 ((v:List zac).map zac.enc)))
def zaz_O (v:(List zac)):List (Nat×O):=[]
def zaz_e (Q:(List zac)→Prop)(v:(List zac)):Prop:=Rt (zaz_R) (zaz_O) v (Q v)
def zaz_r (a0:(List zac))(v:(List zac)):Prop:=Con Tryz.prog 75 [(.t (.sl 9 ((a0:List zac).map zac.enc)))] [] (fun r_ o_=>r_=zaz_R v∧o_=zaz_O v)
def zaz_w (a0:(List zac))(Q_:(List zac)→Prop):Prop:=zaz_L0 a0 (fun (y1:(List zac))=>zaz_e Q_ y1) 0 []
def zaz_h (a0:(List zac)):HT (List zac) := .loop [.own 3 47 9, .keep [0,3,4] [47]] (.out ((List zac)) (.exit 0) [.keep [3] [47]] (zaz_q0_0 a0) (fun y1 => .fin [] [] y1) (.nil))
theorem zaz_of {a0 v} (h:zaz_w a0 (fun v_=>v_=v)):zaz_r a0 v:=Con_of1 Tryz.call75 Tryz.func75 [] (zaz_h a0) h
def zgm_R (v:Int):A:=(.t (i64 v))
def zgm_O (v:Int):List (Nat×O):=[]
def zgm_e (Q:Int→Prop)(v:Int):Prop:=Rt (zgm_R) (zgm_O) v (Q v)
def zgm_r (a0:zab)(a1:ByteArray)(v:Int):Prop:=Con Tryz.prog 124 [(.agg [(.t (str a0.ISIN)),(.t (i64 a0.Qty))]),(.t (str a1))] [] (fun r_ o_=>r_=zgm_R v∧o_=zgm_O v)
def zgm_w (a0:zab)(a1:ByteArray)(Q_:Int→Prop):Prop:=∃ r1:Int,(zds_r a0.ISIN a1 r1)∧(zgm_e Q_ r1)
def zgm_h (a0:zab)(a1:ByteArray):HT Int := .ex (Int) fun r1 => .op 1 3 (.call [] (.t (i64 r1)) []) (.fin [] [] r1)
theorem zgm_of {a0 a1 v} (h:zgm_w a0 a1 (fun v_=>v_=v)):zgm_r a0 a1 v:=Con_of1 Tryz.call124 Tryz.func124 [] (zgm_h a0 a1) h
def zan_s0 (a0:(List zab))(a1:ByteArray)(s0_0:Int)(s0_1:Int):St:=mkSt [(0,(.t (.sl 2 ((a0:List zab).map zab.enc)))),(1,(.t (str a1))),(2,(.fn 124 [])),(8,(.t (i64 (lenM zab.enc a0)))),(9,(.t (i64 s0_0))),(10,(.t (i64 s0_1)))] [] []
def zan_q0_0 (a0:(List zab))(a1:ByteArray)(y:Int):St:=mkSt [(0,(.t (.sl 2 ((a0:List zab).map zab.enc)))),(1,(.t (str a1))),(2,(.fn 124 [])),(8,(.t (i64 (lenM zab.enc a0)))),(9,(.t (i64 y)))] [] []
def zan_x0_0 (a0:(List zab))(a1:ByteArray)(Q:Int→Prop)(y:Int):Prop:=Lf (.exit 0) (zan_q0_0 a0 a1) y (Q y)
def zan_L0 (a0:(List zab))(a1:ByteArray)(Q0_:Int→Prop)(s0_0:Int)(s0_1:Int):Prop:=LW Tryz.prog 49 (loopAt Tryz.f123 0) (Outs.K (.one (.exit 0) [.keep [0,1,2,8,9] []] (zan_q0_0 a0 a1) Q0_)) (zan_s0 a0 a1 s0_0 s0_1)
def zan_w0 (a0:(List zab))(a1:ByteArray)(X_:Int→Int→Prop)(Q0_:Int→Prop)(s0_0:Int)(s0_1:Int):Prop:=Br (decide (s0_0<s0_1)) (Num .i64 (s0_0+s0_1) (∃ xa1:zab,Got zab.enc a0 (IntKind.wrap .i64 (Int.fdiv (IntKind.wrap .u64 (s0_0+s0_1)) 2)) xa1 (∃ ra2:Int,(zgm_r xa1 a1 ra2)∧(Br (decide (ra2<0)) (Num .i64 ((IntKind.wrap .i64 (Int.fdiv (IntKind.wrap .u64 (s0_0+s0_1)) 2))+1) (X_ ((IntKind.wrap .i64 (Int.fdiv (IntKind.wrap .u64 (s0_0+s0_1)) 2))+1) s0_1)) (X_ s0_0 (IntKind.wrap .i64 (Int.fdiv (IntKind.wrap .u64 (s0_0+s0_1)) 2))))))) (zan_x0_0 a0 a1 Q0_ s0_0)
def zan_h0 (a0:(List zab))(a1:ByteArray)(s0_0:Int)(s0_1:Int):HT Int := .both 17 (.op 4 2 (.nw) (.ex (zab) fun xa1 => .op 5 3 (.row ((IntKind.wrap .i64 (Int.fdiv (IntKind.wrap .u64 (s0_0+s0_1)) 2)):Int).toNat (zab.enc xa1)) (.ex (Int) fun ra2 => .op 5 6 (.call [] (.t (i64 ra2)) []) (.both 31 (.op 6 1 (.nw) (.round [.keep [0,1,2,8,9,10] []])) (.round [.keep [0,1,2,8,9,10] []]))))) (.ret [.keep [0,1,2,8,9] []] s0_0)
theorem zan_l0 {a0 a1 Q0_ s0_0 s0_1} (h:zan_w0 a0 a1 (zan_L0 a0 a1 Q0_) Q0_ s0_0 s0_1):zan_L0 a0 a1 Q0_ s0_0 s0_1:=LW_runT _ (zan_h0 a0 a1 s0_0 s0_1) h (by kernel_rfl)
def zan_R (v:Int×Bool):A:=(.tup [(.t (i64 v.1)),(.t (boo v.2))])
def zan_O (v:Int×Bool):List (Nat×O):=[]
def zan_e (Q:(Int×Bool)→Prop)(v:Int×Bool):Prop:=Rt (zan_R) (zan_O) v (Q v)
def zan_r (a0:(List zab))(a1:ByteArray)(v:Int×Bool):Prop:=Con Tryz.prog 123 [(.t (.sl 2 ((a0:List zab).map zab.enc))),(.t (str a1)),(.fn 124 [])] [] (fun r_ o_=>r_=zan_R v∧o_=zan_O v)
def zan_w (a0:(List zab))(a1:ByteArray)(Q_:(Int×Bool)→Prop):Prop:=zan_L0 a0 a1 (fun (y1:Int)=>Br (decide (y1<(lenM zab.enc a0))) (∃ x2:zab,Got zab.enc a0 y1 x2 (∃ r3:Int,(zgm_r x2 a1 r3)∧(zan_e Q_ (y1,(r3==0))))) (zan_e Q_ (y1,false))) 0 (lenM zab.enc a0)
def zan_h (a0:(List zab))(a1:ByteArray):HT (Int×Bool) := .loop [.keep [0,1,2,8,9,10] []] (.out (Int) (.exit 0) [.keep [0,1,2,8,9] []] (zan_q0_0 a0 a1) (fun y1 => .bo 8 4 (.ex (zab) fun x2 => .op 8 8 (.row (y1:Int).toNat (zab.enc x2)) (.ex (Int) fun r3 => .op 8 11 (.call [] (.t (i64 r3)) []) (.fin [] [] (y1,(r3==0))))) (.fin [] [] (y1,false))) (.nil))
theorem zan_of {a0 a1 v} (h:zan_w a0 a1 (fun v_=>v_=v)):zan_r a0 a1 v:=Con_of1 Tryz.call123 Tryz.func123 [] (zan_h a0 a1) h
def zgv_R (v:Int×Bool):A:=(.tup [(.t (i64 v.1)),(.t (boo v.2))])
def zgv_O (v:Int×Bool):List (Nat×O):=[]
def zgv_e (Q:(Int×Bool)→Prop)(v:Int×Bool):Prop:=Rt (zgv_R) (zgv_O) v (Q v)
def zgv_r (a0:(List zab))(a1:ByteArray)(v:Int×Bool):Prop:=Con Tryz.prog 71 [(.t (.sl 2 ((a0:List zab).map zab.enc))),(.t (str a1))] [] (fun r_ o_=>r_=zgv_R v∧o_=zgv_O v)
def zgv_w (a0:(List zab))(a1:ByteArray)(Q_:(Int×Bool)→Prop):Prop:=∃ r1:Int×Bool,(zan_r a0 a1 r1)∧(zgv_e Q_ (r1.1,r1.2))
def zgv_h (a0:(List zab))(a1:ByteArray):HT (Int×Bool) := .ex (Int×Bool) fun r1 => .op 1 2 (.call [] (.tup [(.t (i64 r1.1)),(.t (boo r1.2))]) []) (.fin [] [] (r1.1,r1.2))
theorem zgv_of {a0 a1 v} (h:zgv_w a0 a1 (fun v_=>v_=v)):zgv_r a0 a1 v:=Con_of1 Tryz.call71 Tryz.func71 [] (zgv_h a0 a1) h
def zha_R (v:(List zab)×Int):A:=(.tup [(.ref 1600),(.t (i64 v.2))])
def zha_O (v:(List zab)×Int):List (Nat×O):=[(1600,(.row 2 ((v.1:List zab).map zab.enc)))]
def zha_e (Q:((List zab)×Int)→Prop)(v:(List zab)×Int):Prop:=Rt (zha_R) (zha_O) v (Q v)
def zha_r (a0:(List zab))(a1:zab)(v:(List zab)×Int):Prop:=Con Tryz.prog 87 [(.ref 620),(.agg [(.t (str a1.ISIN)),(.t (i64 a1.Qty))])] [(620,(.row 2 ((a0:List zab).map zab.enc)))] (fun r_ o_=>r_=zha_R v∧o_=zha_O v)
def zha_w (a0:(List zab))(a1:zab)(Q_:((List zab)×Int)→Prop):Prop:=∃ r1:Int×Bool,(zgv_r a0 a1.ISIN r1)∧(Br (!r1.2) (Br (decide ((lenM zab.enc a0)≥64)) (zha_e Q_ ([],2)) (∃ r2:(List zab),(InsR Tryz.prog 141 2 zab.enc a0 r1.1 [a1] r2)∧(zha_e Q_ (r2,0)))) (InL zab.enc a0 r1.1 (∃ x2:zab,EltG zab.enc a0 r1.1 x2 (Num .i64 (1125899906842624-x2.Qty) (Br (decide (a1.Qty>(1125899906842624-x2.Qty))) (zha_e Q_ ([],9)) (InL zab.enc a0 r1.1 (EltG zab.enc a0 r1.1 x2 (Num .i64 (x2.Qty+a1.Qty) (InL zab.enc a0 r1.1 (EltS zab.enc a0 r1.1 x2 (⟨x2.ISIN,(x2.Qty+a1.Qty)⟩:zab) (zha_e Q_ ((a0.set (r1.1:Int).toNat (⟨x2.ISIN,(x2.Qty+a1.Qty)⟩:zab)),0))))))))))))
def zha_h (a0:(List zab))(a1:zab):HT ((List zab)×Int) := .ex (Int×Bool) fun r1 => .op 1 3 (.ro (.tup [(.t (i64 r1.1)),(.t (boo r1.2))])) (.both 16 (.both 19 (.fin [.own 4 1600 2] [] ([],2)) (.op 5 3 (.id 622) (.ex ((List zab)) fun r2 => .op 5 4 (.call [620,622] (.ref 1600) [(1600,(.row 2 ((r2:List zab).map zab.enc)))]) (.fin [] [] (r2,0))))) (.op 6 4 (.ix (r1.1:Int).toNat) (.ex (zab) fun x2 => .op 6 6 (.row (r1.1:Int).toNat (zab.enc x2)) (.op 6 7 (.nw) (.both 33 (.fin [.own 4 1600 2] [] ([],9)) (.op 8 2 (.ix (r1.1:Int).toNat) (.op 8 4 (.row (r1.1:Int).toNat (zab.enc x2)) (.op 8 7 (.nw) (.op 8 8 (.ix (r1.1:Int).toNat) (.op 8 10 (.row (r1.1:Int).toNat (zab.enc x2)) (.rw 620 (((a0.set (r1.1:Int).toNat (⟨x2.ISIN,(x2.Qty+a1.Qty)⟩:zab)):List zab).map zab.enc) (.fin [.ren 620 1600] [] ((a0.set (r1.1:Int).toNat (⟨x2.ISIN,(x2.Qty+a1.Qty)⟩:zab)),0)))))))))))))
theorem zha_of {a0 a1 v} (h:zha_w a0 a1 (fun v_=>v_=v)):zha_r a0 a1 v:=Con_of1 Tryz.call87 Tryz.func87 [1600] (zha_h a0 a1) h
def zdi_s0 (a0:(List zab))(s0_0:Int)(s0_1:(List zab)):St:=mkSt [(4,(.ref 1600)),(8,(.t (.sl 2 ((a0:List zab).map zab.enc)))),(9,(.t (i64 (lenM zab.enc a0)))),(10,(.t (i64 s0_0)))] [(1600,(.row 2 ((s0_1:List zab).map zab.enc)))] []
def zdi_q0_0 (a0:(List zab))(y:Int):St:=mkSt [(2,(.t (.v (.slice none 0 0)))),(3,(.t (i64 y)))] [] []
def zdi_x0_0 (a0:(List zab))(Q:Int→Prop)(y:Int):Prop:=Lf .ret (zdi_q0_0 a0) y (Q y)
def zdi_q0_1 (a0:(List zab))(y:(List zab)):St:=mkSt [(4,(.ref 1600))] [(1600,(.row 2 ((y:List zab).map zab.enc)))] []
def zdi_x0_1 (a0:(List zab))(Q:(List zab)→Prop)(y:(List zab)):Prop:=Lf (.exit 0) (zdi_q0_1 a0) y (Q y)
def zdi_L0 (a0:(List zab))(Q0_:Int→Prop)(Q1_:(List zab)→Prop)(s0_0:Int)(s0_1:(List zab)):Prop:=LW Tryz.prog 33 (loopAt Tryz.f41 0) (Outs.K (.cons .ret [.keep [2,3] []] (zdi_q0_0 a0) Q0_ (.one (.exit 0) [.keep [4] [1600]] (zdi_q0_1 a0) Q1_))) (zdi_s0 a0 s0_0 s0_1)
def zdi_w0 (a0:(List zab))(X_:Int→(List zab)→Prop)(Q0_:Int→Prop)(Q1_:(List zab)→Prop)(s0_0:Int)(s0_1:(List zab)):Prop:=Br (decide (s0_0<(lenM zab.enc a0))) (∃ xa1:zab,Got zab.enc a0 s0_0 xa1 (Br (decide (xa1.Qty<1)) (zdi_x0_0 a0 Q0_ 1) (Br (decide (xa1.Qty>1125899906842624)) (zdi_x0_0 a0 Q0_ 1) (∃ ra2:(List zab)×Int,(zha_r s0_1 xa1 ra2)∧(Br (ra2.2 != 0) (zdi_x0_0 a0 Q0_ ra2.2) (Num .i64 (s0_0+1) (X_ (s0_0+1) ra2.1))))))) (zdi_x0_1 a0 Q1_ s0_1)
def zdi_h0 (a0:(List zab))(s0_0:Int)(s0_1:(List zab)):HT (Int ⊕ (List zab)) := .both 11 (.ex (zab) fun xa1 => .op 5 0 (.row (s0_0:Int).toNat (zab.enc xa1)) (.bo 6 3 (.ret [.keep [2,3] []] (.inl 1)) (.both 21 (.ret [.keep [2,3] []] (.inl 1)) (.reg 8 [.ren 1600 620] [] (.ex ((List zab)×Int) fun ra2 => .op 8 2 (.call [620] (.tup [(.ref 1600),(.t (i64 ra2.2))]) [(1600,(.row 2 ((ra2.1:List zab).map zab.enc)))]) (.both 29 (.ret [.keep [2,3] []] (.inl ra2.2)) (.op 11 0 (.nw) (.round [.keep [4,8,9,10] [1600]])))))))) (.ret [.keep [4] [1600]] (.inr s0_1))
theorem zdi_l0 {a0 Q0_ Q1_ s0_0 s0_1} (h:zdi_w0 a0 (zdi_L0 a0 Q0_ Q1_) Q0_ Q1_ s0_0 s0_1):zdi_L0 a0 Q0_ Q1_ s0_0 s0_1:=LW_runT _ (zdi_h0 a0 s0_0 s0_1) h (by kernel_rfl)
def zdi_R (v:(List zab)×Int):A:=(.tup [(.t (.sl 2 ((v.1:List zab).map zab.enc))),(.t (i64 v.2))])
def zdi_O (v:(List zab)×Int):List (Nat×O):=[]
def zdi_e (Q:((List zab)×Int)→Prop)(v:(List zab)×Int):Prop:=Rt (zdi_R) (zdi_O) v (Q v)
def zdi_r (a0:(List zab))(v:(List zab)×Int):Prop:=Con Tryz.prog 41 [(.t (.sl 2 ((a0:List zab).map zab.enc)))] [] (fun r_ o_=>r_=zdi_R v∧o_=zdi_O v)
def zdi_w (a0:(List zab))(Q_:((List zab)×Int)→Prop):Prop:=zdi_L0 a0 (fun (y1:Int)=>zdi_e Q_ ([],y1)) (fun (y1:(List zab))=>zdi_e Q_ (y1,0)) 0 []
def zdi_h (a0:(List zab)):HT ((List zab)×Int) := .loop [.own 4 1600 2, .keep [4,8,9,10] [1600]] (.out (Int) .ret [.keep [2,3] []] (zdi_q0_0 a0) (fun y1 => .fin [] [([0],2)] ([],y1)) (.out ((List zab)) (.exit 0) [.keep [4] [1600]] (zdi_q0_1 a0) (fun y1 => .fin [] [] (y1,0)) (.nil)))
theorem zdi_of {a0 v} (h:zdi_w a0 (fun v_=>v_=v)):zdi_r a0 v:=Con_of1 Tryz.call41 Tryz.func41 [] (zdi_h a0) h
def zfw_s0 (a0:(List zaa))(s0_0:Int)(s0_1:(List zab)):St:=mkSt [(4,(.ref 17)),(7,(.t (.sl 9 ((a0:List zaa).map zaa.enc)))),(8,(.t (i64 (lenM zaa.enc a0)))),(9,(.t (i64 s0_0)))] [(17,(.row 2 ((s0_1:List zab).map zab.enc)))] []
def zfw_q0_0 (a0:(List zaa))(y:(List zab)):St:=mkSt [(4,(.ref 17))] [(17,(.row 2 ((y:List zab).map zab.enc)))] []
def zfw_x0_0 (a0:(List zaa))(Q:(List zab)→Prop)(y:(List zab)):Prop:=Lf (.exit 0) (zfw_q0_0 a0) y (Q y)
def zfw_L0 (a0:(List zaa))(Q0_:(List zab)→Prop)(s0_0:Int)(s0_1:(List zab)):Prop:=LW Tryz.prog 23 (loopAt Tryz.f115 0) (Outs.K (.one (.exit 0) [.keep [4] [17]] (zfw_q0_0 a0) Q0_)) (zfw_s0 a0 s0_0 s0_1)
def zfw_w0 (a0:(List zaa))(X_:Int→(List zab)→Prop)(Q0_:(List zab)→Prop)(s0_0:Int)(s0_1:(List zab)):Prop:=Br (decide (s0_0<(lenM zaa.enc a0))) (∃ xa1:zaa,Got zaa.enc a0 s0_0 xa1 (App2 24 zab.enc s0_1 [xa1.Lot] (Num .i64 (s0_0+1) (X_ (s0_0+1) (s0_1++[xa1.Lot]))))) (zfw_x0_0 a0 Q0_ s0_1)
def zfw_h0 (a0:(List zaa))(s0_0:Int)(s0_1:(List zab)):HT (List zab) := .both 10 (.ex (zaa) fun xa1 => .op 4 0 (.row (s0_0:Int).toNat (zaa.enc xa1)) (.op 5 4 (.no) (.rw 17 (((s0_1++[xa1.Lot]):List zab).map zab.enc) (.op 6 0 (.nw) (.round [.keep [4,7,8,9] [17]]))))) (.ret [.keep [4] [17]] s0_1)
theorem zfw_l0 {a0 Q0_ s0_0 s0_1} (h:zfw_w0 a0 (zfw_L0 a0 Q0_) Q0_ s0_0 s0_1):zfw_L0 a0 Q0_ s0_0 s0_1:=LW_runT _ (zfw_h0 a0 s0_0 s0_1) h (by kernel_rfl)
def zfw_R (v:(List zab)×Int):A:=(.tup [(.t (.sl 2 ((v.1:List zab).map zab.enc))),(.t (i64 v.2))])
def zfw_O (v:(List zab)×Int):List (Nat×O):=[]
def zfw_e (Q:((List zab)×Int)→Prop)(v:(List zab)×Int):Prop:=Rt (zfw_R) (zfw_O) v (Q v)
def zfw_r (a0:(List zaa))(v:(List zab)×Int):Prop:=Con Tryz.prog 115 [(.t (.sl 9 ((a0:List zaa).map zaa.enc)))] [] (fun r_ o_=>r_=zfw_R v∧o_=zfw_O v)
def zfw_w (a0:(List zaa))(Q_:((List zab)×Int)→Prop):Prop:=zfw_L0 a0 (fun (y1:(List zab))=>∃ r2:(List zab)×Int,(zdi_r y1 r2)∧(zfw_e Q_ (r2.1,r2.2))) 0 []
def zfw_h (a0:(List zaa)):HT ((List zab)×Int) := .loop [.own 4 17 2, .keep [4,7,8,9] [17]] (.out ((List zab)) (.exit 0) [.keep [4] [17]] (zfw_q0_0 a0) (fun y1 => .reg 7 [.frz 17] [] (.ex ((List zab)×Int) fun r2 => .op 7 1 (.call [] (.tup [(.t (.sl 2 ((r2.1:List zab).map zab.enc))),(.t (i64 r2.2))]) []) (.fin [] [] (r2.1,r2.2)))) (.nil))
theorem zfw_of {a0 v} (h:zfw_w a0 (fun v_=>v_=v)):zfw_r a0 v:=Con_of1 Tryz.call115 Tryz.func115 [] (zfw_h a0) h
def zen_R (v:Bool):A:=(.t (boo v))
def zen_O (v:Bool):List (Nat×O):=[]
def zen_e (Q:Bool→Prop)(v:Bool):Prop:=Rt (zen_R) (zen_O) v (Q v)
def zen_r (a0:Int)(v:Bool):Prop:=Con Tryz.prog 44 [(.t (i64 a0))] [] (fun r_ o_=>r_=zen_R v∧o_=zen_O v)
def zen_w (a0:Int)(Q_:Bool→Prop):Prop:=Br (decide (a0≥1)) (zen_e Q_ (decide (a0≤1125899906842624))) (zen_e Q_ false)
def zen_h (a0:Int):HT Bool := .bo 1 2 (.fin [] [] (decide (a0≤1125899906842624))) (.fin [] [] false)
theorem zen_of {a0 v} (h:zen_w a0 (fun v_=>v_=v)):zen_r a0 v:=Con_of1 Tryz.call44 Tryz.func44 [] (zen_h a0) h
def zce_s0 (a0:(List zab))(a1:ByteArray)(s0_0:Int):St:=mkSt [(0,(.t (.sl 2 ((a0:List zab).map zab.enc)))),(1,(.t (str a1))),(5,(.t (i64 s0_0)))] [] []
def zce_q0_0 (a0:(List zab))(a1:ByteArray)(y:Int):St:=mkSt [(4,(.t (i64 y)))] [] []
def zce_x0_0 (a0:(List zab))(a1:ByteArray)(Q:Int→Prop)(y:Int):Prop:=Lf .ret (zce_q0_0 a0 a1) y (Q y)
def zce_q0_1 (a0:(List zab))(a1:ByteArray)(y:Unit):St:=mkSt [] [] []
def zce_x0_1 (a0:(List zab))(a1:ByteArray)(Q:Unit→Prop)(y:Unit):Prop:=Lf (.exit 0) (zce_q0_1 a0 a1) y (Q y)
def zce_L0 (a0:(List zab))(a1:ByteArray)(Q0_:Int→Prop)(Q1_:Unit→Prop)(s0_0:Int):Prop:=LW Tryz.prog 24 (loopAt Tryz.f45 0) (Outs.K (.cons .ret [.keep [4] []] (zce_q0_0 a0 a1) Q0_ (.one (.exit 0) [.keep [] []] (zce_q0_1 a0 a1) Q1_))) (zce_s0 a0 a1 s0_0)
def zce_w0 (a0:(List zab))(a1:ByteArray)(X_:Int→Prop)(Q0_:Int→Prop)(Q1_:Unit→Prop)(s0_0:Int):Prop:=Br (decide (s0_0<(lenM zab.enc a0))) (∃ xa1:zab,Got zab.enc a0 s0_0 xa1 (Br (strEq xa1.ISIN a1) (Got zab.enc a0 s0_0 xa1 (zce_x0_0 a0 a1 Q0_ xa1.Qty)) (Num .i64 (s0_0+1) (X_ (s0_0+1))))) (zce_x0_1 a0 a1 Q1_ ())
def zce_h0 (a0:(List zab))(a1:ByteArray)(s0_0:Int):HT (Int ⊕ Unit) := .both 9 (.ex (zab) fun xa1 => .op 4 2 (.row (s0_0:Int).toNat (zab.enc xa1)) (.both 18 (.op 5 2 (.row (s0_0:Int).toNat (zab.enc xa1)) (.ret [.keep [4] []] (.inl xa1.Qty))) (.op 3 1 (.nw) (.round [.keep [0,1,5] []])))) (.ret [.keep [] []] (.inr ()))
theorem zce_l0 {a0 a1 Q0_ Q1_ s0_0} (h:zce_w0 a0 a1 (zce_L0 a0 a1 Q0_ Q1_) Q0_ Q1_ s0_0):zce_L0 a0 a1 Q0_ Q1_ s0_0:=LW_runT _ (zce_h0 a0 a1 s0_0) h (by kernel_rfl)
def zce_R (v:Int):A:=(.t (i64 v))
def zce_O (v:Int):List (Nat×O):=[]
def zce_e (Q:Int→Prop)(v:Int):Prop:=Rt (zce_R) (zce_O) v (Q v)
def zce_r (a0:(List zab))(a1:ByteArray)(v:Int):Prop:=Con Tryz.prog 45 [(.t (.sl 2 ((a0:List zab).map zab.enc))),(.t (str a1))] [] (fun r_ o_=>r_=zce_R v∧o_=zce_O v)
def zce_w (a0:(List zab))(a1:ByteArray)(Q_:Int→Prop):Prop:=zce_L0 a0 a1 (fun (y1:Int)=>zce_e Q_ y1) (fun (y1:Unit)=>zce_e Q_ 0) 0
def zce_h (a0:(List zab))(a1:ByteArray):HT Int := .loop [.keep [0,1,5] []] (.out (Int) .ret [.keep [4] []] (zce_q0_0 a0 a1) (fun y1 => .fin [] [] y1) (.out (Unit) (.exit 0) [.keep [] []] (zce_q0_1 a0 a1) (fun y1 => .fin [] [] 0) (.nil)))
theorem zce_of {a0 a1 v} (h:zce_w a0 a1 (fun v_=>v_=v)):zce_r a0 a1 v:=Con_of1 Tryz.call45 Tryz.func45 [] (zce_h a0 a1) h
def zcj_s0 (a0:(List zab))(a1:ByteArray)(a2:Int)(s0_0:Bool)(s0_1:Int)(s0_2:(List zab)):St:=mkSt [(0,(.t (.sl 2 ((a0:List zab).map zab.enc)))),(1,(.t (str a1))),(2,(.t (i64 a2))),(7,(.ref 34)),(8,(.t (boo s0_0))),(9,(.t (i64 s0_1)))] [(34,(.row 2 ((s0_2:List zab).map zab.enc)))] []
def zcj_q0_0 (a0:(List zab))(a1:ByteArray)(a2:Int)(y:Bool×(List zab)):St:=mkSt [(1,(.t (str a1))),(2,(.t (i64 a2))),(7,(.ref 34)),(8,(.t (boo y.1)))] [(34,(.row 2 ((y.2:List zab).map zab.enc)))] []
def zcj_x0_0 (a0:(List zab))(a1:ByteArray)(a2:Int)(Q:(Bool×(List zab))→Prop)(y:Bool×(List zab)):Prop:=Lf (.exit 0) (zcj_q0_0 a0 a1 a2) y (Q y)
def zcj_L0 (a0:(List zab))(a1:ByteArray)(a2:Int)(Q0_:(Bool×(List zab))→Prop)(s0_0:Bool)(s0_1:Int)(s0_2:(List zab)):Prop:=LW Tryz.prog 58 (loopAt Tryz.f46 0) (Outs.K (.one (.exit 0) [.keep [1,2,7,8] [34]] (zcj_q0_0 a0 a1 a2) Q0_)) (zcj_s0 a0 a1 a2 s0_0 s0_1 s0_2)
def zcj_w0 (a0:(List zab))(a1:ByteArray)(a2:Int)(X_:Bool→Int→(List zab)→Prop)(Q0_:(Bool×(List zab))→Prop)(s0_0:Bool)(s0_1:Int)(s0_2:(List zab)):Prop:=Br (decide (s0_1<(lenM zab.enc a0))) (Br (!s0_0) (∃ xa1:zab,Got zab.enc a0 s0_1 xa1 (Br (!strLt xa1.ISIN a1) (App2 24 zab.enc s0_2 [(⟨a1,a2⟩:zab)] (Got zab.enc a0 s0_1 xa1 (Br (!strEq xa1.ISIN a1) (Got zab.enc a0 s0_1 xa1 (App2 24 zab.enc (s0_2++[(⟨a1,a2⟩:zab)]) [xa1] (Num .i64 (s0_1+1) (X_ true (s0_1+1) ((s0_2++[(⟨a1,a2⟩:zab)])++[xa1]))))) (Num .i64 (s0_1+1) (X_ true (s0_1+1) (s0_2++[(⟨a1,a2⟩:zab)])))))) (Got zab.enc a0 s0_1 xa1 (Br (!strEq xa1.ISIN a1) (Got zab.enc a0 s0_1 xa1 (App2 24 zab.enc s0_2 [xa1] (Num .i64 (s0_1+1) (X_ s0_0 (s0_1+1) (s0_2++[xa1]))))) (Num .i64 (s0_1+1) (X_ s0_0 (s0_1+1) s0_2)))))) (∃ xa1:zab,Got zab.enc a0 s0_1 xa1 (Br (!strEq xa1.ISIN a1) (Got zab.enc a0 s0_1 xa1 (App2 24 zab.enc s0_2 [xa1] (Num .i64 (s0_1+1) (X_ s0_0 (s0_1+1) (s0_2++[xa1]))))) (Num .i64 (s0_1+1) (X_ s0_0 (s0_1+1) s0_2))))) (zcj_x0_0 a0 a1 a2 Q0_ (s0_0,s0_2))
def zcj_h0 (a0:(List zab))(a1:ByteArray)(a2:Int)(s0_0:Bool)(s0_1:Int)(s0_2:(List zab)):HT (Bool×(List zab)) := .both 15 (.bo 6 2 (.ex (zab) fun xa1 => .op 6 5 (.row (s0_1:Int).toNat (zab.enc xa1)) (.both 28 (.op 7 5 (.no) (.rw 34 (((s0_2++[(⟨a1,a2⟩:zab)]):List zab).map zab.enc) (.op 9 2 (.row (s0_1:Int).toNat (zab.enc xa1)) (.both 41 (.op 10 3 (.row (s0_1:Int).toNat (zab.enc xa1)) (.op 10 6 (.no) (.rw 48 ((((s0_2++[(⟨a1,a2⟩:zab)])++[xa1]):List zab).map zab.enc) (.op 5 1 (.nw) (.round [.ren 48 34, .keep [0,1,2,7,8,9] [34]]))))) (.op 5 1 (.nw) (.round [.keep [0,1,2,7,8,9] [34]])))))) (.op 9 2 (.row (s0_1:Int).toNat (zab.enc xa1)) (.both 41 (.op 10 3 (.row (s0_1:Int).toNat (zab.enc xa1)) (.op 10 6 (.no) (.rw 48 (((s0_2++[xa1]):List zab).map zab.enc) (.op 5 1 (.nw) (.round [.ren 48 34, .keep [0,1,2,7,8,9] [34]]))))) (.op 5 1 (.nw) (.round [.keep [0,1,2,7,8,9] [34]])))))) (.ex (zab) fun xa1 => .op 9 2 (.row (s0_1:Int).toNat (zab.enc xa1)) (.both 41 (.op 10 3 (.row (s0_1:Int).toNat (zab.enc xa1)) (.op 10 6 (.no) (.rw 48 (((s0_2++[xa1]):List zab).map zab.enc) (.op 5 1 (.nw) (.round [.ren 48 34, .keep [0,1,2,7,8,9] [34]]))))) (.op 5 1 (.nw) (.round [.keep [0,1,2,7,8,9] [34]]))))) (.ret [.keep [1,2,7,8] [34]] (s0_0,s0_2))
theorem zcj_l0 {a0 a1 a2 Q0_ s0_0 s0_1 s0_2} (h:zcj_w0 a0 a1 a2 (zcj_L0 a0 a1 a2 Q0_) Q0_ s0_0 s0_1 s0_2):zcj_L0 a0 a1 a2 Q0_ s0_0 s0_1 s0_2:=LW_runT _ (zcj_h0 a0 a1 a2 s0_0 s0_1 s0_2) h (by kernel_rfl)
def zcj_R (v:(List zab)):A:=(.t (.sl 2 ((v:List zab).map zab.enc)))
def zcj_O (v:(List zab)):List (Nat×O):=[]
def zcj_e (Q:(List zab)→Prop)(v:(List zab)):Prop:=Rt (zcj_R) (zcj_O) v (Q v)
def zcj_r (a0:(List zab))(a1:ByteArray)(a2:Int)(v:(List zab)):Prop:=Con Tryz.prog 46 [(.t (.sl 2 ((a0:List zab).map zab.enc))),(.t (str a1)),(.t (i64 a2))] [] (fun r_ o_=>r_=zcj_R v∧o_=zcj_O v)
def zcj_w (a0:(List zab))(a1:ByteArray)(a2:Int)(Q_:(List zab)→Prop):Prop:=zcj_L0 a0 a1 a2 (fun (y1:Bool×(List zab))=>Br (!y1.1) (App2 24 zab.enc y1.2 [(⟨a1,a2⟩:zab)] (zcj_e Q_ (y1.2++[(⟨a1,a2⟩:zab)]))) (zcj_e Q_ y1.2)) (a2==0) 0 []
def zcj_h (a0:(List zab))(a1:ByteArray)(a2:Int):HT (List zab) := .loop [.own 7 34 2, .keep [0,1,2,7,8,9] [34]] (.out (Bool×(List zab)) (.exit 0) [.keep [1,2,7,8] [34]] (zcj_q0_0 a0 a1 a2) (fun y1 => .both 50 (.op 12 5 (.no) (.rw 56 (((y1.2++[(⟨a1,a2⟩:zab)]):List zab).map zab.enc) (.fin [] [] (y1.2++[(⟨a1,a2⟩:zab)])))) (.fin [] [] y1.2)) (.nil))
theorem zcj_of {a0 a1 a2 v} (h:zcj_w a0 a1 a2 (fun v_=>v_=v)):zcj_r a0 a1 a2 v:=Con_of1 Tryz.call46 Tryz.func46 [] (zcj_h a0 a1 a2) h
def zbb_s0 (a1:(List zab))(s0_0:(List zab))(s0_1:Int):St:=mkSt [(1,(.t (.sl 2 ((a1:List zab).map zab.enc)))),(6,(.t (.sl 2 ((s0_0:List zab).map zab.enc)))),(7,(.t (i64 s0_1)))] [] []
def zbb_q0_0 (a1:(List zab))(y:Int):St:=mkSt [(4,(.t (.v (.slice none 0 0)))),(5,(.t (i64 y)))] [] []
def zbb_x0_0 (a1:(List zab))(Q:Int→Prop)(y:Int):Prop:=Lf .ret (zbb_q0_0 a1) y (Q y)
def zbb_q0_1 (a1:(List zab))(y:(List zab)):St:=mkSt [(6,(.t (.sl 2 ((y:List zab).map zab.enc))))] [] []
def zbb_x0_1 (a1:(List zab))(Q:(List zab)→Prop)(y:(List zab)):Prop:=Lf (.exit 0) (zbb_q0_1 a1) y (Q y)
def zbb_L0 (a1:(List zab))(Q0_:Int→Prop)(Q1_:(List zab)→Prop)(s0_0:(List zab))(s0_1:Int):Prop:=LW Tryz.prog 53 (loopAt Tryz.f20 0) (Outs.K (.cons .ret [.keep [4,5] []] (zbb_q0_0 a1) Q0_ (.one (.exit 0) [.keep [6] []] (zbb_q0_1 a1) Q1_))) (zbb_s0 a1 s0_0 s0_1)
def zbb_w0 (a1:(List zab))(X_:(List zab)→Int→Prop)(Q0_:Int→Prop)(Q1_:(List zab)→Prop)(s0_0:(List zab))(s0_1:Int):Prop:=Br (decide (s0_1<(lenM zab.enc a1))) (∃ xa1:zab,Got zab.enc a1 s0_1 xa1 (∃ ra2:Int,(zce_r s0_0 xa1.ISIN ra2)∧(Br (ra2==0) (Br (decide ((lenM zab.enc s0_0)≥64)) (zbb_x0_0 a1 Q0_ 2) (Got zab.enc a1 s0_1 xa1 (Num .i64 (1125899906842624-ra2) (Br (decide (xa1.Qty>(1125899906842624-ra2))) (zbb_x0_0 a1 Q0_ 9) (Got zab.enc a1 s0_1 xa1 (Got zab.enc a1 s0_1 xa1 (Num .i64 (ra2+xa1.Qty) (∃ ra3:(List zab),(zcj_r s0_0 xa1.ISIN (ra2+xa1.Qty) ra3)∧(Num .i64 (s0_1+1) (X_ ra3 (s0_1+1))))))))))) (Got zab.enc a1 s0_1 xa1 (Num .i64 (1125899906842624-ra2) (Br (decide (xa1.Qty>(1125899906842624-ra2))) (zbb_x0_0 a1 Q0_ 9) (Got zab.enc a1 s0_1 xa1 (Got zab.enc a1 s0_1 xa1 (Num .i64 (ra2+xa1.Qty) (∃ ra3:(List zab),(zcj_r s0_0 xa1.ISIN (ra2+xa1.Qty) ra3)∧(Num .i64 (s0_1+1) (X_ ra3 (s0_1+1))))))))))))) (zbb_x0_1 a1 Q1_ s0_0)
def zbb_h0 (a1:(List zab))(s0_0:(List zab))(s0_1:Int):HT (Int ⊕ (List zab)) := .both 13 (.ex (zab) fun xa1 => .op 5 3 (.row (s0_1:Int).toNat (zab.enc xa1)) (.ex (Int) fun ra2 => .op 5 6 (.call [] (.t (i64 ra2)) []) (.bo 6 2 (.both 29 (.ret [.keep [4,5] []] (.inl 2)) (.op 8 2 (.row (s0_1:Int).toNat (zab.enc xa1)) (.op 8 6 (.nw) (.both 37 (.ret [.keep [4,5] []] (.inl 9)) (.op 10 3 (.row (s0_1:Int).toNat (zab.enc xa1)) (.op 10 9 (.row (s0_1:Int).toNat (zab.enc xa1)) (.op 10 12 (.nw) (.ex ((List zab)) fun ra3 => .op 10 13 (.call [] (.t (.sl 2 ((ra3:List zab).map zab.enc))) []) (.op 4 1 (.nw) (.round [.keep [1,6,7] []])))))))))) (.op 8 2 (.row (s0_1:Int).toNat (zab.enc xa1)) (.op 8 6 (.nw) (.both 37 (.ret [.keep [4,5] []] (.inl 9)) (.op 10 3 (.row (s0_1:Int).toNat (zab.enc xa1)) (.op 10 9 (.row (s0_1:Int).toNat (zab.enc xa1)) (.op 10 12 (.nw) (.ex ((List zab)) fun ra3 => .op 10 13 (.call [] (.t (.sl 2 ((ra3:List zab).map zab.enc))) []) (.op 4 1 (.nw) (.round [.keep [1,6,7] []])))))))))))) (.ret [.keep [6] []] (.inr s0_0))
theorem zbb_l0 {a1 Q0_ Q1_ s0_0 s0_1} (h:zbb_w0 a1 (zbb_L0 a1 Q0_ Q1_) Q0_ Q1_ s0_0 s0_1):zbb_L0 a1 Q0_ Q1_ s0_0 s0_1:=LW_runT _ (zbb_h0 a1 s0_0 s0_1) h (by kernel_rfl)
def zbb_R (v:(List zab)×Int):A:=(.tup [(.t (.sl 2 ((v.1:List zab).map zab.enc))),(.t (i64 v.2))])
def zbb_O (v:(List zab)×Int):List (Nat×O):=[]
def zbb_e (Q:((List zab)×Int)→Prop)(v:(List zab)×Int):Prop:=Rt (zbb_R) (zbb_O) v (Q v)
def zbb_r (a0:(List zab))(a1:(List zab))(v:(List zab)×Int):Prop:=Con Tryz.prog 20 [(.t (.sl 2 ((a0:List zab).map zab.enc))),(.t (.sl 2 ((a1:List zab).map zab.enc)))] [] (fun r_ o_=>r_=zbb_R v∧o_=zbb_O v)
def zbb_w (a0:(List zab))(a1:(List zab))(Q_:((List zab)×Int)→Prop):Prop:=zbb_L0 a1 (fun (y1:Int)=>zbb_e Q_ ([],y1)) (fun (y1:(List zab))=>zbb_e Q_ (y1,0)) a0 0
def zbb_h (a0:(List zab))(a1:(List zab)):HT ((List zab)×Int) := .loop [.keep [1,6,7] []] (.out (Int) .ret [.keep [4,5] []] (zbb_q0_0 a1) (fun y1 => .fin [] [([0],2)] ([],y1)) (.out ((List zab)) (.exit 0) [.keep [6] []] (zbb_q0_1 a1) (fun y1 => .fin [] [] (y1,0)) (.nil)))
theorem zbb_of {a0 a1 v} (h:zbb_w a0 a1 (fun v_=>v_=v)):zbb_r a0 a1 v:=Con_of1 Tryz.call20 Tryz.func20 [] (zbb_h a0 a1) h
def zbq_s0 (a0:(List zab))(s0_0:(List zab))(s0_1:Int):St:=mkSt [(0,(.t (.sl 2 ((a0:List zab).map zab.enc)))),(4,(.t (.sl 2 ((s0_0:List zab).map zab.enc)))),(5,(.t (i64 s0_1)))] [] []
def zbq_q0_0 (a0:(List zab))(y:Int):St:=mkSt [(2,(.t (.v (.slice none 0 0)))),(3,(.t (i64 y)))] [] []
def zbq_x0_0 (a0:(List zab))(Q:Int→Prop)(y:Int):Prop:=Lf .ret (zbq_q0_0 a0) y (Q y)
def zbq_q0_1 (a0:(List zab))(y:(List zab)):St:=mkSt [(4,(.t (.sl 2 ((y:List zab).map zab.enc))))] [] []
def zbq_x0_1 (a0:(List zab))(Q:(List zab)→Prop)(y:(List zab)):Prop:=Lf (.exit 0) (zbq_q0_1 a0) y (Q y)
def zbq_L0 (a0:(List zab))(Q0_:Int→Prop)(Q1_:(List zab)→Prop)(s0_0:(List zab))(s0_1:Int):Prop:=LW Tryz.prog 36 (loopAt Tryz.f19 0) (Outs.K (.cons .ret [.keep [2,3] []] (zbq_q0_0 a0) Q0_ (.one (.exit 0) [.keep [4] []] (zbq_q0_1 a0) Q1_))) (zbq_s0 a0 s0_0 s0_1)
def zbq_w0 (a0:(List zab))(X_:(List zab)→Int→Prop)(Q0_:Int→Prop)(Q1_:(List zab)→Prop)(s0_0:(List zab))(s0_1:Int):Prop:=Br (decide (s0_1<(lenM zab.enc a0))) (∃ xa1:zab,Got zab.enc a0 s0_1 xa1 (∃ ra2:Bool,(zen_r xa1.Qty ra2)∧(Br (!ra2) (zbq_x0_0 a0 Q0_ 1) (Num .i64 (s0_1+1) (CutLlh zab.enc a0 s0_1 (s0_1+1) (∃ ra3:(List zab)×Int,(zbb_r s0_0 ((a0.take ((s0_1+1):Int).toNat).drop (s0_1:Int).toNat) ra3)∧(Br (ra3.2 != 0) (zbq_x0_0 a0 Q0_ ra3.2) (Num .i64 (s0_1+1) (X_ ra3.1 (s0_1+1)))))))))) (zbq_x0_1 a0 Q1_ s0_0)
def zbq_h0 (a0:(List zab))(s0_0:(List zab))(s0_1:Int):HT (Int ⊕ (List zab)) := .both 11 (.ex (zab) fun xa1 => .op 5 2 (.row (s0_1:Int).toNat (zab.enc xa1)) (.ex (Bool) fun ra2 => .op 5 5 (.call [] (.t (boo ra2)) []) (.both 20 (.ret [.keep [2,3] []] (.inl 1)) (.op 7 4 (.nw) (.op 7 5 (.cut (s0_1:Int).toNat ((s0_1+1):Int).toNat) (.rwS 27 ((((a0.take ((s0_1+1):Int).toNat).drop (s0_1:Int).toNat):List zab).map zab.enc) (.ex ((List zab)×Int) fun ra3 => .op 7 6 (.call [] (.tup [(.t (.sl 2 ((ra3.1:List zab).map zab.enc))),(.t (i64 ra3.2))]) []) (.both 32 (.ret [.keep [2,3] []] (.inl ra3.2)) (.op 4 1 (.nw) (.round [.keep [0,4,5] []])))))))))) (.ret [.keep [4] []] (.inr s0_0))
theorem zbq_l0 {a0 Q0_ Q1_ s0_0 s0_1} (h:zbq_w0 a0 (zbq_L0 a0 Q0_ Q1_) Q0_ Q1_ s0_0 s0_1):zbq_L0 a0 Q0_ Q1_ s0_0 s0_1:=LW_runT _ (zbq_h0 a0 s0_0 s0_1) h (by kernel_rfl)
def zbq_R (v:(List zab)×Int):A:=(.tup [(.t (.sl 2 ((v.1:List zab).map zab.enc))),(.t (i64 v.2))])
def zbq_O (v:(List zab)×Int):List (Nat×O):=[]
def zbq_e (Q:((List zab)×Int)→Prop)(v:(List zab)×Int):Prop:=Rt (zbq_R) (zbq_O) v (Q v)
def zbq_r (a0:(List zab))(v:(List zab)×Int):Prop:=Con Tryz.prog 19 [(.t (.sl 2 ((a0:List zab).map zab.enc)))] [] (fun r_ o_=>r_=zbq_R v∧o_=zbq_O v)
def zbq_w (a0:(List zab))(Q_:((List zab)×Int)→Prop):Prop:=zbq_L0 a0 (fun (y1:Int)=>zbq_e Q_ ([],y1)) (fun (y1:(List zab))=>zbq_e Q_ (y1,0)) [] 0
def zbq_h (a0:(List zab)):HT ((List zab)×Int) := .loop [.nil 4 2, .keep [0,4,5] []] (.out (Int) .ret [.keep [2,3] []] (zbq_q0_0 a0) (fun y1 => .fin [] [([0],2)] ([],y1)) (.out ((List zab)) (.exit 0) [.keep [4] []] (zbq_q0_1 a0) (fun y1 => .fin [] [] (y1,0)) (.nil)))
theorem zbq_of {a0 v} (h:zbq_w a0 (fun v_=>v_=v)):zbq_r a0 v:=Con_of1 Tryz.call19 Tryz.func19 [] (zbq_h a0) h
def zcv_s0 (a0:(List zac))(s0_0:Int)(s0_1:(List zab)):St:=mkSt [(0,(.t (.sl 9 ((a0:List zac).map zac.enc)))),(4,(.ref 19)),(5,(.t (i64 s0_0)))] [(19,(.row 2 ((s0_1:List zab).map zab.enc)))] []
def zcv_q0_0 (a0:(List zac))(y:(List zab)):St:=mkSt [(4,(.ref 19))] [(19,(.row 2 ((y:List zab).map zab.enc)))] []
def zcv_x0_0 (a0:(List zac))(Q:(List zab)→Prop)(y:(List zab)):Prop:=Lf (.exit 0) (zcv_q0_0 a0) y (Q y)
def zcv_L0 (a0:(List zac))(Q0_:(List zab)→Prop)(s0_0:Int)(s0_1:(List zab)):Prop:=LW Tryz.prog 24 (loopAt Tryz.f136 0) (Outs.K (.one (.exit 0) [.keep [4] [19]] (zcv_q0_0 a0) Q0_)) (zcv_s0 a0 s0_0 s0_1)
def zcv_w0 (a0:(List zac))(X_:Int→(List zab)→Prop)(Q0_:(List zab)→Prop)(s0_0:Int)(s0_1:(List zab)):Prop:=Br (decide (s0_0<(lenM zac.enc a0))) (∃ xa1:zac,Got zac.enc a0 s0_0 xa1 (App2 24 zab.enc s0_1 [xa1.Lot] (Num .i64 (s0_0+1) (X_ (s0_0+1) (s0_1++[xa1.Lot]))))) (zcv_x0_0 a0 Q0_ s0_1)
def zcv_h0 (a0:(List zac))(s0_0:Int)(s0_1:(List zab)):HT (List zab) := .both 9 (.ex (zac) fun xa1 => .op 5 3 (.row (s0_0:Int).toNat (zac.enc xa1)) (.op 5 7 (.no) (.rw 19 (((s0_1++[xa1.Lot]):List zab).map zab.enc) (.op 4 1 (.nw) (.round [.keep [0,4,5] [19]]))))) (.ret [.keep [4] [19]] s0_1)
theorem zcv_l0 {a0 Q0_ s0_0 s0_1} (h:zcv_w0 a0 (zcv_L0 a0 Q0_) Q0_ s0_0 s0_1):zcv_L0 a0 Q0_ s0_0 s0_1:=LW_runT _ (zcv_h0 a0 s0_0 s0_1) h (by kernel_rfl)
def zcv_R (v:(List zab)×Int):A:=(.tup [(.t (.sl 2 ((v.1:List zab).map zab.enc))),(.t (i64 v.2))])
def zcv_O (v:(List zab)×Int):List (Nat×O):=[]
def zcv_e (Q:((List zab)×Int)→Prop)(v:(List zab)×Int):Prop:=Rt (zcv_R) (zcv_O) v (Q v)
def zcv_r (a0:(List zac))(v:(List zab)×Int):Prop:=Con Tryz.prog 136 [(.t (.sl 9 ((a0:List zac).map zac.enc)))] [] (fun r_ o_=>r_=zcv_R v∧o_=zcv_O v)
def zcv_w (a0:(List zac))(Q_:((List zab)×Int)→Prop):Prop:=zcv_L0 a0 (fun (y1:(List zab))=>∃ r2:(List zab)×Int,(zbq_r y1 r2)∧(zcv_e Q_ (r2.1,r2.2))) 0 []
def zcv_h (a0:(List zac)):HT ((List zab)×Int) := .loop [.own 4 19 2, .keep [0,4,5] [19]] (.out ((List zab)) (.exit 0) [.keep [4] [19]] (zcv_q0_0 a0) (fun y1 => .reg 6 [.frz 19] [] (.ex ((List zab)×Int) fun r2 => .op 6 1 (.call [] (.tup [(.t (.sl 2 ((r2.1:List zab).map zab.enc))),(.t (i64 r2.2))]) []) (.fin [] [] (r2.1,r2.2)))) (.nil))
theorem zcv_of {a0 v} (h:zcv_w a0 (fun v_=>v_=v)):zcv_r a0 v:=Con_of1 Tryz.call136 Tryz.func136 [] (zcv_h a0) h
def zfd_R (v:Int):A:=(.t (i64 v))
def zfd_O (v:Int):List (Nat×O):=[]
def zfd_e (Q:Int→Prop)(v:Int):Prop:=Rt (zfd_R) (zfd_O) v (Q v)
def zfd_r (a0:zag)(a1:ByteArray)(v:Int):Prop:=Con Tryz.prog 94 [(.agg [(.t (str a0.ISIN)),(.t (i64 a0.Issuer)),(.t (i64 a0.Rating)),(.t (i64 a0.Maturity)),(.t (str a0.Currency))]),(.t (str a1))] [] (fun r_ o_=>r_=zfd_R v∧o_=zfd_O v)
def zfd_w (a0:zag)(a1:ByteArray)(Q_:Int→Prop):Prop:=∃ r1:Int,(zds_r a0.ISIN a1 r1)∧(zfd_e Q_ r1)
def zfd_h (a0:zag)(a1:ByteArray):HT Int := .ex (Int) fun r1 => .op 1 3 (.call [] (.t (i64 r1)) []) (.fin [] [] r1)
theorem zfd_of {a0 a1 v} (h:zfd_w a0 a1 (fun v_=>v_=v)):zfd_r a0 a1 v:=Con_of1 Tryz.call94 Tryz.func94 [] (zfd_h a0 a1) h
def zam_s0 (a0:(List zag))(a1:ByteArray)(s0_0:Int)(s0_1:Int):St:=mkSt [(0,(.t (.sl 5 ((a0:List zag).map zag.enc)))),(1,(.t (str a1))),(2,(.fn 94 [])),(8,(.t (i64 (lenM zag.enc a0)))),(9,(.t (i64 s0_0))),(10,(.t (i64 s0_1)))] [] []
def zam_q0_0 (a0:(List zag))(a1:ByteArray)(y:Int):St:=mkSt [(0,(.t (.sl 5 ((a0:List zag).map zag.enc)))),(1,(.t (str a1))),(2,(.fn 94 [])),(8,(.t (i64 (lenM zag.enc a0)))),(9,(.t (i64 y)))] [] []
def zam_x0_0 (a0:(List zag))(a1:ByteArray)(Q:Int→Prop)(y:Int):Prop:=Lf (.exit 0) (zam_q0_0 a0 a1) y (Q y)
def zam_L0 (a0:(List zag))(a1:ByteArray)(Q0_:Int→Prop)(s0_0:Int)(s0_1:Int):Prop:=LW Tryz.prog 49 (loopAt Tryz.f93 0) (Outs.K (.one (.exit 0) [.keep [0,1,2,8,9] []] (zam_q0_0 a0 a1) Q0_)) (zam_s0 a0 a1 s0_0 s0_1)
def zam_w0 (a0:(List zag))(a1:ByteArray)(X_:Int→Int→Prop)(Q0_:Int→Prop)(s0_0:Int)(s0_1:Int):Prop:=Br (decide (s0_0<s0_1)) (Num .i64 (s0_0+s0_1) (∃ xa1:zag,Got zag.enc a0 (IntKind.wrap .i64 (Int.fdiv (IntKind.wrap .u64 (s0_0+s0_1)) 2)) xa1 (∃ ra2:Int,(zfd_r xa1 a1 ra2)∧(Br (decide (ra2<0)) (Num .i64 ((IntKind.wrap .i64 (Int.fdiv (IntKind.wrap .u64 (s0_0+s0_1)) 2))+1) (X_ ((IntKind.wrap .i64 (Int.fdiv (IntKind.wrap .u64 (s0_0+s0_1)) 2))+1) s0_1)) (X_ s0_0 (IntKind.wrap .i64 (Int.fdiv (IntKind.wrap .u64 (s0_0+s0_1)) 2))))))) (zam_x0_0 a0 a1 Q0_ s0_0)
def zam_h0 (a0:(List zag))(a1:ByteArray)(s0_0:Int)(s0_1:Int):HT Int := .both 17 (.op 4 2 (.nw) (.ex (zag) fun xa1 => .op 5 3 (.row ((IntKind.wrap .i64 (Int.fdiv (IntKind.wrap .u64 (s0_0+s0_1)) 2)):Int).toNat (zag.enc xa1)) (.ex (Int) fun ra2 => .op 5 6 (.call [] (.t (i64 ra2)) []) (.both 31 (.op 6 1 (.nw) (.round [.keep [0,1,2,8,9,10] []])) (.round [.keep [0,1,2,8,9,10] []]))))) (.ret [.keep [0,1,2,8,9] []] s0_0)
theorem zam_l0 {a0 a1 Q0_ s0_0 s0_1} (h:zam_w0 a0 a1 (zam_L0 a0 a1 Q0_) Q0_ s0_0 s0_1):zam_L0 a0 a1 Q0_ s0_0 s0_1:=LW_runT _ (zam_h0 a0 a1 s0_0 s0_1) h (by kernel_rfl)
def zam_R (v:Int×Bool):A:=(.tup [(.t (i64 v.1)),(.t (boo v.2))])
def zam_O (v:Int×Bool):List (Nat×O):=[]
def zam_e (Q:(Int×Bool)→Prop)(v:Int×Bool):Prop:=Rt (zam_R) (zam_O) v (Q v)
def zam_r (a0:(List zag))(a1:ByteArray)(v:Int×Bool):Prop:=Con Tryz.prog 93 [(.t (.sl 5 ((a0:List zag).map zag.enc))),(.t (str a1)),(.fn 94 [])] [] (fun r_ o_=>r_=zam_R v∧o_=zam_O v)
def zam_w (a0:(List zag))(a1:ByteArray)(Q_:(Int×Bool)→Prop):Prop:=zam_L0 a0 a1 (fun (y1:Int)=>Br (decide (y1<(lenM zag.enc a0))) (∃ x2:zag,Got zag.enc a0 y1 x2 (∃ r3:Int,(zfd_r x2 a1 r3)∧(zam_e Q_ (y1,(r3==0))))) (zam_e Q_ (y1,false))) 0 (lenM zag.enc a0)
def zam_h (a0:(List zag))(a1:ByteArray):HT (Int×Bool) := .loop [.keep [0,1,2,8,9,10] []] (.out (Int) (.exit 0) [.keep [0,1,2,8,9] []] (zam_q0_0 a0 a1) (fun y1 => .bo 8 4 (.ex (zag) fun x2 => .op 8 8 (.row (y1:Int).toNat (zag.enc x2)) (.ex (Int) fun r3 => .op 8 11 (.call [] (.t (i64 r3)) []) (.fin [] [] (y1,(r3==0))))) (.fin [] [] (y1,false))) (.nil))
theorem zam_of {a0 a1 v} (h:zam_w a0 a1 (fun v_=>v_=v)):zam_r a0 a1 v:=Con_of1 Tryz.call93 Tryz.func93 [] (zam_h a0 a1) h
def zes_R (a0:zat)(v:Int×Bool):A:=(.tup [(.t (i64 v.1)),(.t (boo v.2))])
def zes_O (a0:zat)(v:Int×Bool):List (Nat×O):=[(700,(.box [(.ref 701),(.ref 702),(.t (boo a0.made))])),(701,(.row 5 ((a0.l:List zag).map zag.enc))),(702,(.row 1 ((a0.prices:List Int).map eN)))]
def zes_e (a0:zat)(Q:(Int×Bool)→Prop)(v:Int×Bool):Prop:=Rt (zes_R a0) (zes_O a0) v (Q v)
def zes_r (a0:zat)(a1:ByteArray)(v:Int×Bool):Prop:=Con Tryz.prog 52 [(.at 700 0),(.t (str a1))] [(700,(.box [(.ref 701),(.ref 702),(.t (boo a0.made))])),(701,(.row 5 ((a0.l:List zag).map zag.enc))),(702,(.row 1 ((a0.prices:List Int).map eN)))] (fun r_ o_=>r_=zes_R a0 v∧o_=zes_O a0 v)
def zes_w (a0:zat)(a1:ByteArray)(Q_:(Int×Bool)→Prop):Prop:=∃ r1:Int×Bool,(zam_r a0.l a1 r1)∧(zes_e a0 Q_ (r1.1,r1.2))
def zes_h (a0:zat)(a1:ByteArray):HT (Int×Bool) := .ex (Int×Bool) fun r1 => .op 1 5 (.ro (.tup [(.t (i64 r1.1)),(.t (boo r1.2))])) (.fin [] [] (r1.1,r1.2))
theorem zes_of {a0 a1 v} (h:zes_w a0 a1 (fun v_=>v_=v)):zes_r a0 a1 v:=Con_of1 Tryz.call52 Tryz.func52 [700,701,702] (zes_h a0 a1) h
def zgb_R (a0:zat)(v:zag×Bool):A:=(.tup [(.agg [(.t (str v.1.ISIN)),(.t (i64 v.1.Issuer)),(.t (i64 v.1.Rating)),(.t (i64 v.1.Maturity)),(.t (str v.1.Currency))]),(.t (boo v.2))])
def zgb_O (a0:zat)(v:zag×Bool):List (Nat×O):=[(700,(.box [(.ref 701),(.ref 702),(.t (boo a0.made))])),(701,(.row 5 ((a0.l:List zag).map zag.enc))),(702,(.row 1 ((a0.prices:List Int).map eN)))]
def zgb_e (a0:zat)(Q:(zag×Bool)→Prop)(v:zag×Bool):Prop:=Rt (zgb_R a0) (zgb_O a0) v (Q v)
def zgb_r (a0:zat)(a1:ByteArray)(v:zag×Bool):Prop:=Con Tryz.prog 101 [(.at 700 0),(.t (str a1))] [(700,(.box [(.ref 701),(.ref 702),(.t (boo a0.made))])),(701,(.row 5 ((a0.l:List zag).map zag.enc))),(702,(.row 1 ((a0.prices:List Int).map eN)))] (fun r_ o_=>r_=zgb_R a0 v∧o_=zgb_O a0 v)
def zgb_w (a0:zat)(a1:ByteArray)(Q_:(zag×Bool)→Prop):Prop:=∃ r1:Int×Bool,(zes_r a0 a1 r1)∧(Br (!r1.2) (zgb_e a0 Q_ ((⟨ByteArray.empty,0,0,0,ByteArray.empty⟩:zag),false)) (InL zag.enc a0.l r1.1 (∃ x2:zag,EltG zag.enc a0.l r1.1 x2 (zgb_e a0 Q_ (x2,true)))))
def zgb_h (a0:zat)(a1:ByteArray):HT (zag×Bool) := .ex (Int×Bool) fun r1 => .op 3 2 (.callR [] [700,701,702] [700,701,702] (.tup [(.t (i64 r1.1)),(.t (boo r1.2))]) []) (.both 18 (.fin [] [] ((⟨ByteArray.empty,0,0,0,ByteArray.empty⟩:zag),false)) (.op 6 5 (.ix (r1.1:Int).toNat) (.ex (zag) fun x2 => .op 6 6 (.row (r1.1:Int).toNat (zag.enc x2)) (.fin [] [] (x2,true)))))
theorem zgb_of {a0 a1 v} (h:zgb_w a0 a1 (fun v_=>v_=v)):zgb_r a0 a1 v:=Con_of1 Tryz.call101 Tryz.func101 [700,701,702] (zgb_h a0 a1) h
def zfo_R (a0:zat)(v:Int×Bool):A:=(.tup [(.t (i64 v.1)),(.t (boo v.2))])
def zfo_O (a0:zat)(v:Int×Bool):List (Nat×O):=[(700,(.box [(.ref 701),(.ref 702),(.t (boo a0.made))])),(701,(.row 5 ((a0.l:List zag).map zag.enc))),(702,(.row 1 ((a0.prices:List Int).map eN)))]
def zfo_e (a0:zat)(Q:(Int×Bool)→Prop)(v:Int×Bool):Prop:=Rt (zfo_R a0) (zfo_O a0) v (Q v)
def zfo_r (a0:zat)(a1:ByteArray)(v:Int×Bool):Prop:=Con Tryz.prog 102 [(.at 700 0),(.t (str a1))] [(700,(.box [(.ref 701),(.ref 702),(.t (boo a0.made))])),(701,(.row 5 ((a0.l:List zag).map zag.enc))),(702,(.row 1 ((a0.prices:List Int).map eN)))] (fun r_ o_=>r_=zfo_R a0 v∧o_=zfo_O a0 v)
def zfo_w (a0:zat)(a1:ByteArray)(Q_:(Int×Bool)→Prop):Prop:=∃ r1:Int×Bool,(zes_r a0 a1 r1)∧(Br (!r1.2) (zfo_e a0 Q_ (0,false)) (InL eN a0.prices r1.1 (∃ x2:Int,EltG eN a0.prices r1.1 x2 (Br (x2==0) (zfo_e a0 Q_ (0,false)) (InL eN a0.prices r1.1 (EltG eN a0.prices r1.1 x2 (zfo_e a0 Q_ (x2,true))))))))
def zfo_h (a0:zat)(a1:ByteArray):HT (Int×Bool) := .ex (Int×Bool) fun r1 => .op 3 2 (.callR [] [700,701,702] [700,701,702] (.tup [(.t (i64 r1.1)),(.t (boo r1.2))]) []) (.bo 4 2 (.fin [] [] (0,false)) (.op 4 8 (.ix (r1.1:Int).toNat) (.ex (Int) fun x2 => .op 4 9 (.row (r1.1:Int).toNat (eN x2)) (.both 27 (.fin [] [] (0,false)) (.op 6 5 (.ix (r1.1:Int).toNat) (.op 6 6 (.row (r1.1:Int).toNat (eN x2)) (.fin [] [] (x2,true))))))))
theorem zfo_of {a0 a1 v} (h:zfo_w a0 a1 (fun v_=>v_=v)):zfo_r a0 a1 v:=Con_of1 Tryz.call102 Tryz.func102 [700,701,702] (zfo_h a0 a1) h
def zgs_R (v:Int):A:=(.t (i64 v))
def zgs_O (v:Int):List (Nat×O):=[]
def zgs_e (Q:Int→Prop)(v:Int):Prop:=Rt (zgs_R) (zgs_O) v (Q v)
def zgs_r (a0:zag)(a1:Int)(v:Int):Prop:=Con Tryz.prog 154 [(.agg [(.t (str a0.ISIN)),(.t (i64 a0.Issuer)),(.t (i64 a0.Rating)),(.t (i64 a0.Maturity)),(.t (str a0.Currency))]),(.t (i64 a1))] [] (fun r_ o_=>r_=zgs_R v∧o_=zgs_O v)
def zgs_w (a0:zag)(a1:Int)(Q_:Int→Prop):Prop:=Br (decide (a1<0)) (zgs_e Q_ (-1)) (Br (decide (a1>200000)) (zgs_e Q_ (-1)) (Num .i64 (a0.Maturity-a1) (zgs_e Q_ (a0.Maturity-a1))))
def zgs_h (a0:zag)(a1:Int):HT Int := .bo 1 2 (.fin [] [] (-1)) (.both 10 (.fin [] [] (-1)) (.op 3 3 (.nw) (.fin [] [] (a0.Maturity-a1))))
theorem zgs_of {a0 a1 v} (h:zgs_w a0 a1 (fun v_=>v_=v)):zgs_r a0 a1 v:=Con_of1 Tryz.call154 Tryz.func154 [] (zgs_h a0 a1) h
def zdo_s0 (r1:Int)(a0:zav)(a1:zag)(s0_0:Int):St:=mkSt [(4,(.at 4 0)),(8,(.t (i64 r1))),(17,(.t (.sl 3 ((a0.Cuts:List zbp).map zbp.enc)))),(18,(.t (i64 (lenM zbp.enc a0.Cuts)))),(19,(.t (i64 s0_0)))] [(4,(.box [(.t (str a1.ISIN)),(.t (i64 a1.Issuer)),(.t (i64 a1.Rating)),(.t (i64 a1.Maturity)),(.t (str a1.Currency))]))] []
def zdo_q0_0 (r1:Int)(a0:zav)(a1:zag)(y:Int):St:=mkSt [(6,(.t (i64 y))),(7,(.t (boo true)))] [] []
def zdo_x0_0 (r1:Int)(a0:zav)(a1:zag)(Q:Int→Prop)(y:Int):Prop:=Lf .ret (zdo_q0_0 r1 a0 a1) y (Q y)
def zdo_q0_1 (r1:Int)(a0:zav)(a1:zag)(y:Unit):St:=mkSt [] [] []
def zdo_x0_1 (r1:Int)(a0:zav)(a1:zag)(Q:Unit→Prop)(y:Unit):Prop:=Lf (.exit 0) (zdo_q0_1 r1 a0 a1) y (Q y)
def zdo_L0 (r1:Int)(a0:zav)(a1:zag)(Q0_:Int→Prop)(Q1_:Unit→Prop)(s0_0:Int):Prop:=LW Tryz.prog 37 (loopAt Tryz.f103 0) (Outs.K (.cons .ret [.keep [6,7] []] (zdo_q0_0 r1 a0 a1) Q0_ (.one (.exit 0) [.keep [] []] (zdo_q0_1 r1 a0 a1) Q1_))) (zdo_s0 r1 a0 a1 s0_0)
def zdo_w0 (r1:Int)(a0:zav)(a1:zag)(X_:Int→Prop)(Q0_:Int→Prop)(Q1_:Unit→Prop)(s0_0:Int):Prop:=Br (decide (s0_0<(lenM zbp.enc a0.Cuts))) (∃ xa1:zbp,Got zbp.enc a0.Cuts s0_0 xa1 (Br (decide (r1≤xa1.Days)) (Br (decide (a1.Rating≤xa1.Rating)) (zdo_x0_0 r1 a0 a1 Q0_ xa1.Cut) (Num .i64 (s0_0+1) (X_ (s0_0+1)))) (Num .i64 (s0_0+1) (X_ (s0_0+1))))) (zdo_x0_1 r1 a0 a1 Q1_ ())
def zdo_h0 (r1:Int)(a0:zav)(a1:zag)(s0_0:Int):HT (Int ⊕ Unit) := .both 20 (.ex (zbp) fun xa1 => .op 6 0 (.row (s0_0:Int).toNat (zbp.enc xa1)) (.bo 7 4 (.both 33 (.ret [.keep [6,7] []] (.inl xa1.Cut)) (.op 9 0 (.nw) (.round [.keep [4,8,17,18,19] [4]]))) (.op 9 0 (.nw) (.round [.keep [4,8,17,18,19] [4]])))) (.ret [.keep [] []] (.inr ()))
theorem zdo_l0 {r1 a0 a1 Q0_ Q1_ s0_0} (h:zdo_w0 r1 a0 a1 (zdo_L0 r1 a0 a1 Q0_ Q1_) Q0_ Q1_ s0_0):zdo_L0 r1 a0 a1 Q0_ Q1_ s0_0:=LW_runT _ (zdo_h0 r1 a0 a1 s0_0) h (by kernel_rfl)
def zdo_R (v:Int×Bool):A:=(.tup [(.t (i64 v.1)),(.t (boo v.2))])
def zdo_O (v:Int×Bool):List (Nat×O):=[]
def zdo_e (Q:(Int×Bool)→Prop)(v:Int×Bool):Prop:=Rt (zdo_R) (zdo_O) v (Q v)
def zdo_r (a0:zav)(a1:zag)(a2:Int)(v:Int×Bool):Prop:=Con Tryz.prog 103 [(.agg [(.t (i64 a0.ID)),(.t (i64 a0.Version)),(.t (str a0.Currency)),(.t (i64 a0.Rating)),(.t (i64 a0.Least)),(.t (i64 a0.Most)),(.t (.sl 3 ((a0.Cuts:List zbp).map zbp.enc))),(.t (i64 a0.Issuer)),(.t (i64 a0.Asset)),(.t (.sl 1 ((a0.Barred:List Int).map eN)))]),(.agg [(.t (str a1.ISIN)),(.t (i64 a1.Issuer)),(.t (i64 a1.Rating)),(.t (i64 a1.Maturity)),(.t (str a1.Currency))]),(.t (i64 a2))] [] (fun r_ o_=>r_=zdo_R v∧o_=zdo_O v)
def zdo_w (a0:zav)(a1:zag)(a2:Int)(Q_:(Int×Bool)→Prop):Prop:=∃ r1:Int,(zgs_r a1 a2 r1)∧(Br (decide (r1<0)) (zdo_e Q_ (0,false)) (zdo_L0 r1 a0 a1 (fun (y2:Int)=>zdo_e Q_ (y2,true)) (fun (y2:Unit)=>zdo_e Q_ (0,false)) 0))
def zdo_h (a0:zav)(a1:zag)(a2:Int):HT (Int×Bool) := .ex (Int) fun r1 => .op 1 2 (.call [] (.t (i64 r1)) []) (.both 15 (.fin [] [] (0,false)) (.loop [.keep [4,8,17,18,19] [4]] (.out (Int) .ret [.keep [6,7] []] (zdo_q0_0 r1 a0 a1) (fun y2 => .fin [] [] (y2,true)) (.out (Unit) (.exit 0) [.keep [] []] (zdo_q0_1 r1 a0 a1) (fun y2 => .fin [] [] (0,false)) (.nil)))))
theorem zdo_of {a0 a1 a2 v} (h:zdo_w a0 a1 a2 (fun v_=>v_=v)):zdo_r a0 a1 a2 v:=Con_of1 Tryz.call103 Tryz.func103 [] (zdo_h a0 a1 a2) h
def zft_R (a0:zat)(v:zaa×Int):A:=(.tup [(.agg [(.t (str v.1.Lot.ISIN)),(.t (i64 v.1.Lot.Qty)),(.t (str v.1.Asset.ISIN)),(.t (i64 v.1.Asset.Issuer)),(.t (i64 v.1.Asset.Rating)),(.t (i64 v.1.Asset.Maturity)),(.t (str v.1.Asset.Currency)),(.t (i64 v.1.Price)),(.t (i64 v.1.Cut))]),(.t (i64 v.2))])
def zft_O (a0:zat)(v:zaa×Int):List (Nat×O):=[(700,(.box [(.ref 701),(.ref 702),(.t (boo a0.made))])),(701,(.row 5 ((a0.l:List zag).map zag.enc))),(702,(.row 1 ((a0.prices:List Int).map eN)))]
def zft_e (a0:zat)(Q:(zaa×Int)→Prop)(v:zaa×Int):Prop:=Rt (zft_R a0) (zft_O a0) v (Q v)
def zft_r (a0:zat)(a1:zav)(a2:zab)(a3:Int)(v:zaa×Int):Prop:=Con Tryz.prog 57 [(.at 700 0),(.agg [(.t (i64 a1.ID)),(.t (i64 a1.Version)),(.t (str a1.Currency)),(.t (i64 a1.Rating)),(.t (i64 a1.Least)),(.t (i64 a1.Most)),(.t (.sl 3 ((a1.Cuts:List zbp).map zbp.enc))),(.t (i64 a1.Issuer)),(.t (i64 a1.Asset)),(.t (.sl 1 ((a1.Barred:List Int).map eN)))]),(.agg [(.t (str a2.ISIN)),(.t (i64 a2.Qty))]),(.t (i64 a3))] [(700,(.box [(.ref 701),(.ref 702),(.t (boo a0.made))])),(701,(.row 5 ((a0.l:List zag).map zag.enc))),(702,(.row 1 ((a0.prices:List Int).map eN)))] (fun r_ o_=>r_=zft_R a0 v∧o_=zft_O a0 v)
def zft_w (a0:zat)(a1:zav)(a2:zab)(a3:Int)(Q_:(zaa×Int)→Prop):Prop:=∃ r1:zag×Bool,(zgb_r a0 a2.ISIN r1)∧(Br (!r1.2) (zft_e a0 Q_ ((⟨(⟨ByteArray.empty,0⟩:zab),(⟨ByteArray.empty,0,0,0,ByteArray.empty⟩:zag),0,0⟩:zaa),21)) (∃ r2:Int×Bool,(zfo_r a0 a2.ISIN r2)∧(Br (!r2.2) (zft_e a0 Q_ ((⟨(⟨ByteArray.empty,0⟩:zab),(⟨ByteArray.empty,0,0,0,ByteArray.empty⟩:zag),0,0⟩:zaa),31)) (∃ r3:Int×Bool,(zdo_r a1 r1.1 a3 r3)∧(Br (!r3.2) (zft_e a0 Q_ ((⟨(⟨ByteArray.empty,0⟩:zab),(⟨ByteArray.empty,0,0,0,ByteArray.empty⟩:zag),0,0⟩:zaa),23)) (Br (decide (a2.Qty<0)) (zft_e a0 Q_ ((⟨(⟨ByteArray.empty,0⟩:zab),(⟨ByteArray.empty,0,0,0,ByteArray.empty⟩:zag),0,0⟩:zaa),1)) (Br (decide (a2.Qty>1125899906842624)) (zft_e a0 Q_ ((⟨(⟨ByteArray.empty,0⟩:zab),(⟨ByteArray.empty,0,0,0,ByteArray.empty⟩:zag),0,0⟩:zaa),1)) (zft_e a0 Q_ ((⟨a2,r1.1,r2.1,r3.1⟩:zaa),0)))))))))
def zft_h (a0:zat)(a1:zav)(a2:zab)(a3:Int):HT (zaa×Int) := .ex (zag×Bool) fun r1 => .op 1 3 (.callR [] [700,701,702] [700,701,702] (.tup [(.agg [(.t (str r1.1.ISIN)),(.t (i64 r1.1.Issuer)),(.t (i64 r1.1.Rating)),(.t (i64 r1.1.Maturity)),(.t (str r1.1.Currency))]),(.t (boo r1.2))]) []) (.both 22 (.fin [] [] ((⟨(⟨ByteArray.empty,0⟩:zab),(⟨ByteArray.empty,0,0,0,ByteArray.empty⟩:zag),0,0⟩:zaa),21)) (.ex (Int×Bool) fun r2 => .op 4 3 (.callR [] [700,701,702] [700,701,702] (.tup [(.t (i64 r2.1)),(.t (boo r2.2))]) []) (.both 32 (.fin [] [] ((⟨(⟨ByteArray.empty,0⟩:zab),(⟨ByteArray.empty,0,0,0,ByteArray.empty⟩:zag),0,0⟩:zaa),31)) (.ex (Int×Bool) fun r3 => .op 7 3 (.call [] (.tup [(.t (i64 r3.1)),(.t (boo r3.2))]) []) (.both 42 (.fin [] [] ((⟨(⟨ByteArray.empty,0⟩:zab),(⟨ByteArray.empty,0,0,0,ByteArray.empty⟩:zag),0,0⟩:zaa),23)) (.bo 10 3 (.fin [] [] ((⟨(⟨ByteArray.empty,0⟩:zab),(⟨ByteArray.empty,0,0,0,ByteArray.empty⟩:zag),0,0⟩:zaa),1)) (.both 51 (.fin [] [] ((⟨(⟨ByteArray.empty,0⟩:zab),(⟨ByteArray.empty,0,0,0,ByteArray.empty⟩:zag),0,0⟩:zaa),1)) (.fin [] [] ((⟨a2,r1.1,r2.1,r3.1⟩:zaa),0)))))))))
theorem zft_of {a0 a1 a2 a3 v} (h:zft_w a0 a1 a2 a3 (fun v_=>v_=v)):zft_r a0 a1 a2 a3 v:=Con_of1 Tryz.call57 Tryz.func57 [700,701,702] (zft_h a0 a1 a2 a3) h
def zgi_R (v:Bool):A:=(.t (boo v))
def zgi_O (v:Bool):List (Nat×O):=[]
def zgi_e (Q:Bool→Prop)(v:Bool):Prop:=Rt (zgi_R) (zgi_O) v (Q v)
def zgi_r (a0:Int)(a1:Int)(v:Bool):Prop:=Con Tryz.prog 189 [(.t (i64 a0)),(.t (i64 a1))] [] (fun r_ o_=>r_=zgi_R v∧o_=zgi_O v)
def zgi_w (a0:Int)(a1:Int)(Q_:Bool→Prop):Prop:=∃ r1:Bool,(zfx_r a0 r1)∧(Br r1 (∃ r2:Bool,(zfx_r a1 r2)∧(Br (!r2) (zgi_e Q_ true) (zgi_e Q_ (decide (a0<a1))))) (zgi_e Q_ (decide (a0<a1))))
def zgi_h (a0:Int)(a1:Int):HT Bool := .ex (Bool) fun r1 => .op 1 1 (.call [] (.t (boo r1)) []) (.bo 1 2 (.ex (Bool) fun r2 => .op 1 4 (.call [] (.t (boo r2)) []) (.bo 1 7 (.fin [] [] true) (.fin [] [] (decide (a0<a1))))) (.fin [] [] (decide (a0<a1))))
theorem zgi_of {a0 a1 v} (h:zgi_w a0 a1 (fun v_=>v_=v)):zgi_r a0 a1 v:=Con_of1 Tryz.call189 Tryz.func189 [] (zgi_h a0 a1) h
def zfs_R (v:Bool):A:=(.t (boo v))
def zfs_O (v:Bool):List (Nat×O):=[]
def zfs_e (Q:Bool→Prop)(v:Bool):Prop:=Rt (zfs_R) (zfs_O) v (Q v)
def zfs_r (a0:Int)(v:Bool):Prop:=Con Tryz.prog 190 [(.t (i64 a0))] [] (fun r_ o_=>r_=zfs_R v∧o_=zfs_O v)
def zfs_w (a0:Int)(Q_:Bool→Prop):Prop:=zfs_e Q_ (a0 != a0)
def zfs_h (a0:Int):HT Bool := .fin [] [] (a0 != a0)
theorem zfs_of {a0 v} (h:zfs_w a0 (fun v_=>v_=v)):zfs_r a0 v:=Con_of1 Tryz.call190 Tryz.func190 [] (zfs_h a0) h
def zax_s0 (a0:(List Int))(a1:Int)(s0_0:Int)(s0_1:Int):St:=mkSt [(0,(.t (.sl 1 ((a0:List Int).map eN)))),(1,(.t (i64 a1))),(6,(.t (i64 (lenM eN a0)))),(7,(.t (i64 s0_0))),(8,(.t (i64 s0_1)))] [] []
def zax_q0_0 (a0:(List Int))(a1:Int)(y:Int):St:=mkSt [(0,(.t (.sl 1 ((a0:List Int).map eN)))),(1,(.t (i64 a1))),(6,(.t (i64 (lenM eN a0)))),(7,(.t (i64 y)))] [] []
def zax_x0_0 (a0:(List Int))(a1:Int)(Q:Int→Prop)(y:Int):Prop:=Lf (.exit 0) (zax_q0_0 a0 a1) y (Q y)
def zax_L0 (a0:(List Int))(a1:Int)(Q0_:Int→Prop)(s0_0:Int)(s0_1:Int):Prop:=LW Tryz.prog 54 (loopAt Tryz.f155 0) (Outs.K (.one (.exit 0) [.keep [0,1,6,7] []] (zax_q0_0 a0 a1) Q0_)) (zax_s0 a0 a1 s0_0 s0_1)
def zax_w0 (a0:(List Int))(a1:Int)(X_:Int→Int→Prop)(Q0_:Int→Prop)(s0_0:Int)(s0_1:Int):Prop:=Br (decide (s0_0<s0_1)) (Num .i64 (s0_0+s0_1) (∃ xa1:Int,Got eN a0 (IntKind.wrap .i64 (Int.fdiv (IntKind.wrap .u64 (s0_0+s0_1)) 2)) xa1 (∃ ra2:Bool,(zgi_r xa1 a1 ra2)∧(Br ra2 (Num .i64 ((IntKind.wrap .i64 (Int.fdiv (IntKind.wrap .u64 (s0_0+s0_1)) 2))+1) (X_ ((IntKind.wrap .i64 (Int.fdiv (IntKind.wrap .u64 (s0_0+s0_1)) 2))+1) s0_1)) (X_ s0_0 (IntKind.wrap .i64 (Int.fdiv (IntKind.wrap .u64 (s0_0+s0_1)) 2))))))) (zax_x0_0 a0 a1 Q0_ s0_0)
def zax_h0 (a0:(List Int))(a1:Int)(s0_0:Int)(s0_1:Int):HT Int := .both 15 (.op 4 2 (.nw) (.ex (Int) fun xa1 => .op 5 2 (.row ((IntKind.wrap .i64 (Int.fdiv (IntKind.wrap .u64 (s0_0+s0_1)) 2)):Int).toNat (eN xa1)) (.ex (Bool) fun ra2 => .op 5 5 (.call [] (.t (boo ra2)) []) (.both 27 (.op 6 1 (.nw) (.round [.keep [0,1,6,7,8] []])) (.round [.keep [0,1,6,7,8] []]))))) (.ret [.keep [0,1,6,7] []] s0_0)
theorem zax_l0 {a0 a1 Q0_ s0_0 s0_1} (h:zax_w0 a0 a1 (zax_L0 a0 a1 Q0_) Q0_ s0_0 s0_1):zax_L0 a0 a1 Q0_ s0_0 s0_1:=LW_runT _ (zax_h0 a0 a1 s0_0 s0_1) h (by kernel_rfl)
def zax_R (v:Int×Bool):A:=(.tup [(.t (i64 v.1)),(.t (boo v.2))])
def zax_O (v:Int×Bool):List (Nat×O):=[]
def zax_e (Q:(Int×Bool)→Prop)(v:Int×Bool):Prop:=Rt (zax_R) (zax_O) v (Q v)
def zax_r (a0:(List Int))(a1:Int)(v:Int×Bool):Prop:=Con Tryz.prog 155 [(.t (.sl 1 ((a0:List Int).map eN))),(.t (i64 a1))] [] (fun r_ o_=>r_=zax_R v∧o_=zax_O v)
def zax_w (a0:(List Int))(a1:Int)(Q_:(Int×Bool)→Prop):Prop:=zax_L0 a0 a1 (fun (y1:Int)=>Br (decide (y1<(lenM eN a0))) (∃ x2:Int,Got eN a0 y1 x2 (Br (x2==a1) (zax_e Q_ (y1,true)) (Got eN a0 y1 x2 (∃ r3:Bool,(zfs_r x2 r3)∧(Br r3 (∃ r4:Bool,(zfs_r a1 r4)∧(zax_e Q_ (y1,r4))) (zax_e Q_ (y1,false))))))) (zax_e Q_ (y1,false))) 0 (lenM eN a0)
def zax_h (a0:(List Int))(a1:Int):HT (Int×Bool) := .loop [.keep [0,1,6,7,8] []] (.out (Int) (.exit 0) [.keep [0,1,6,7] []] (zax_q0_0 a0 a1) (fun y1 => .bo 8 4 (.ex (Int) fun x2 => .op 8 7 (.row (y1:Int).toNat (eN x2)) (.bo 8 11 (.fin [] [] (y1,true)) (.op 8 14 (.row (y1:Int).toNat (eN x2)) (.ex (Bool) fun r3 => .op 8 16 (.call [] (.t (boo r3)) []) (.bo 8 17 (.ex (Bool) fun r4 => .op 8 19 (.call [] (.t (boo r4)) []) (.fin [] [] (y1,r4))) (.fin [] [] (y1,false))))))) (.fin [] [] (y1,false))) (.nil))
theorem zax_of {a0 a1 v} (h:zax_w a0 a1 (fun v_=>v_=v)):zax_r a0 a1 v:=Con_of1 Tryz.call155 Tryz.func155 [] (zax_h a0 a1) h
def zgj_R (v:Int):A:=(.t (i64 v))
def zgj_O (v:Int):List (Nat×O):=[]
def zgj_e (Q:Int→Prop)(v:Int):Prop:=Rt (zgj_R) (zgj_O) v (Q v)
def zgj_r (a0:zav)(a1:zag)(a2:Int)(v:Int):Prop:=Con Tryz.prog 104 [(.agg [(.t (i64 a0.ID)),(.t (i64 a0.Version)),(.t (str a0.Currency)),(.t (i64 a0.Rating)),(.t (i64 a0.Least)),(.t (i64 a0.Most)),(.t (.sl 3 ((a0.Cuts:List zbp).map zbp.enc))),(.t (i64 a0.Issuer)),(.t (i64 a0.Asset)),(.t (.sl 1 ((a0.Barred:List Int).map eN)))]),(.agg [(.t (str a1.ISIN)),(.t (i64 a1.Issuer)),(.t (i64 a1.Rating)),(.t (i64 a1.Maturity)),(.t (str a1.Currency))]),(.t (i64 a2))] [] (fun r_ o_=>r_=zgj_R v∧o_=zgj_O v)
def zgj_w (a0:zav)(a1:zag)(a2:Int)(Q_:Int→Prop):Prop:=∃ r1:Int,(zgs_r a1 a2 r1)∧(∃ r2:Int×Bool,(zax_r a0.Barred a1.Issuer r2)∧(Br (!strEq a1.Currency a0.Currency) (zgj_e Q_ 1) (Br (decide (a1.Rating>a0.Rating)) (zgj_e Q_ 2) (Br (decide (r1<1)) (zgj_e Q_ 3) (Br (decide (r1<a0.Least)) (zgj_e Q_ 3) (Br (decide (r1>a0.Most)) (zgj_e Q_ 4) (Br r2.2 (zgj_e Q_ 5) (zgj_e Q_ 0))))))))
def zgj_h (a0:zav)(a1:zag)(a2:Int):HT Int := .ex (Int) fun r1 => .op 1 2 (.call [] (.t (i64 r1)) []) (.ex (Int×Bool) fun r2 => .op 2 4 (.call [] (.tup [(.t (i64 r2.1)),(.t (boo r2.2))]) []) (.both 21 (.fin [] [] 1) (.both 27 (.fin [] [] 2) (.bo 7 2 (.fin [] [] 3) (.both 33 (.fin [] [] 3) (.both 42 (.fin [] [] 4) (.both 47 (.fin [] [] 5) (.fin [] [] 0))))))))
theorem zgj_of {a0 a1 a2 v} (h:zgj_w a0 a1 a2 (fun v_=>v_=v)):zgj_r a0 a1 a2 v:=Con_of1 Tryz.call104 Tryz.func104 [] (zgj_h a0 a1 a2) h
def zgu_R (v:Bool):A:=(.t (boo v))
def zgu_O (v:Bool):List (Nat×O):=[]
def zgu_e (Q:Bool→Prop)(v:Bool):Prop:=Rt (zgu_R) (zgu_O) v (Q v)
def zgu_r (a0:zav)(a1:zag)(a2:Int)(v:Bool):Prop:=Con Tryz.prog 58 [(.agg [(.t (i64 a0.ID)),(.t (i64 a0.Version)),(.t (str a0.Currency)),(.t (i64 a0.Rating)),(.t (i64 a0.Least)),(.t (i64 a0.Most)),(.t (.sl 3 ((a0.Cuts:List zbp).map zbp.enc))),(.t (i64 a0.Issuer)),(.t (i64 a0.Asset)),(.t (.sl 1 ((a0.Barred:List Int).map eN)))]),(.agg [(.t (str a1.ISIN)),(.t (i64 a1.Issuer)),(.t (i64 a1.Rating)),(.t (i64 a1.Maturity)),(.t (str a1.Currency))]),(.t (i64 a2))] [] (fun r_ o_=>r_=zgu_R v∧o_=zgu_O v)
def zgu_w (a0:zav)(a1:zag)(a2:Int)(Q_:Bool→Prop):Prop:=∃ r1:Int,(zgj_r a0 a1 a2 r1)∧(zgu_e Q_ (r1==0))
def zgu_h (a0:zav)(a1:zag)(a2:Int):HT Bool := .ex (Int) fun r1 => .op 1 3 (.call [] (.t (i64 r1)) []) (.fin [] [] (r1==0))
theorem zgu_of {a0 a1 a2 v} (h:zgu_w a0 a1 a2 (fun v_=>v_=v)):zgu_r a0 a1 a2 v:=Con_of1 Tryz.call58 Tryz.func58 [] (zgu_h a0 a1 a2) h
def zdc_s0 (a3:Int)(a2:(List zab))(a1:zav)(a0:zat)(s0_0:Int)(s0_1:(List zab))(s0_2:(List zaa)):St:=mkSt [(0,(.at 700 0)),(3,(.t (i64 a3))),(5,(.at 5 0)),(10,(.ref 47)),(11,(.ref 43)),(16,(.t (.sl 2 ((a2:List zab).map zab.enc)))),(17,(.t (i64 (lenM zab.enc a2)))),(18,(.t (i64 s0_0)))] [(5,(.box [(.t (i64 a1.ID)),(.t (i64 a1.Version)),(.t (str a1.Currency)),(.t (i64 a1.Rating)),(.t (i64 a1.Least)),(.t (i64 a1.Most)),(.t (.sl 3 ((a1.Cuts:List zbp).map zbp.enc))),(.t (i64 a1.Issuer)),(.t (i64 a1.Asset)),(.t (.sl 1 ((a1.Barred:List Int).map eN)))])),(43,(.row 2 ((s0_1:List zab).map zab.enc))),(47,(.row 9 ((s0_2:List zaa).map zaa.enc))),(700,(.box [(.ref 701),(.ref 702),(.t (boo a0.made))])),(701,(.row 5 ((a0.l:List zag).map zag.enc))),(702,(.row 1 ((a0.prices:List Int).map eN)))] [700,701,702]
def zdc_q0_0 (a3:Int)(a2:(List zab))(a1:zav)(a0:zat)(y:(List zab)×(List zaa)):St:=mkSt [(10,(.ref 47)),(11,(.ref 43))] [(43,(.row 2 ((y.1:List zab).map zab.enc))),(47,(.row 9 ((y.2:List zaa).map zaa.enc))),(700,(.box [(.ref 701),(.ref 702),(.t (boo a0.made))])),(701,(.row 5 ((a0.l:List zag).map zag.enc))),(702,(.row 1 ((a0.prices:List Int).map eN)))] [700,701,702]
def zdc_x0_0 (a3:Int)(a2:(List zab))(a1:zav)(a0:zat)(Q:((List zab)×(List zaa))→Prop)(y:(List zab)×(List zaa)):Prop:=Lf (.exit 0) (zdc_q0_0 a3 a2 a1 a0) y (Q y)
def zdc_L0 (a3:Int)(a2:(List zab))(a1:zav)(a0:zat)(Q0_:((List zab)×(List zaa))→Prop)(s0_0:Int)(s0_1:(List zab))(s0_2:(List zaa)):Prop:=LW Tryz.prog 52 (loopAt Tryz.f30 0) (Outs.K (.one (.exit 0) [.keep [10,11] [43,47,700,701,702]] (zdc_q0_0 a3 a2 a1 a0) Q0_)) (zdc_s0 a3 a2 a1 a0 s0_0 s0_1 s0_2)
def zdc_w0 (a3:Int)(a2:(List zab))(a1:zav)(a0:zat)(X_:Int→(List zab)→(List zaa)→Prop)(Q0_:((List zab)×(List zaa))→Prop)(s0_0:Int)(s0_1:(List zab))(s0_2:(List zaa)):Prop:=Br (decide (s0_0<(lenM zab.enc a2))) (∃ xa1:zab,Got zab.enc a2 s0_0 xa1 (∃ ra2:zaa×Int,(zft_r a0 a1 xa1 a3 ra2)∧(Br (ra2.2 != 0) (App2 24 zab.enc s0_1 [xa1] (Num .i64 (s0_0+1) (X_ (s0_0+1) (s0_1++[xa1]) s0_2))) (∃ ra3:Bool,(zgu_r a1 ra2.1.Asset a3 ra3)∧(Br (!ra3) (App2 24 zab.enc s0_1 [xa1] (Num .i64 (s0_0+1) (X_ (s0_0+1) (s0_1++[xa1]) s0_2))) (App2 96 zaa.enc s0_2 [ra2.1] (Num .i64 (s0_0+1) (X_ (s0_0+1) s0_1 (s0_2++[ra2.1]))))))))) (zdc_x0_0 a3 a2 a1 a0 Q0_ (s0_1,s0_2))
def zdc_h0 (a3:Int)(a2:(List zab))(a1:zav)(a0:zat)(s0_0:Int)(s0_1:(List zab))(s0_2:(List zaa)):HT ((List zab)×(List zaa)) := .both 19 (.ex (zab) fun xa1 => .op 5 0 (.row (s0_0:Int).toNat (zab.enc xa1)) (.ex (zaa×Int) fun ra2 => .op 6 4 (.callR [] [700,701,702] [700,701,702] (.tup [(.agg [(.t (str ra2.1.Lot.ISIN)),(.t (i64 ra2.1.Lot.Qty)),(.t (str ra2.1.Asset.ISIN)),(.t (i64 ra2.1.Asset.Issuer)),(.t (i64 ra2.1.Asset.Rating)),(.t (i64 ra2.1.Asset.Maturity)),(.t (str ra2.1.Asset.Currency)),(.t (i64 ra2.1.Price)),(.t (i64 ra2.1.Cut))]),(.t (i64 ra2.2))]) []) (.bo 7 2 (.op 8 3 (.no) (.rw 43 (((s0_1++[xa1]):List zab).map zab.enc) (.op 10 0 (.nw) (.round [.keep [0,3,5,10,11,16,17,18] [5,43,47,700,701,702]])))) (.ex (Bool) fun ra3 => .op 7 7 (.call [] (.t (boo ra3)) []) (.both 39 (.op 8 3 (.no) (.rw 43 (((s0_1++[xa1]):List zab).map zab.enc) (.op 10 0 (.nw) (.round [.keep [0,3,5,10,11,16,17,18] [5,43,47,700,701,702]])))) (.op 9 3 (.no) (.rw 47 (((s0_2++[ra2.1]):List zaa).map zaa.enc) (.op 10 0 (.nw) (.round [.keep [0,3,5,10,11,16,17,18] [5,43,47,700,701,702]]))))))))) (.ret [.keep [10,11] [43,47,700,701,702]] (s0_1,s0_2))
theorem zdc_l0 {a3 a2 a1 a0 Q0_ s0_0 s0_1 s0_2} (h:zdc_w0 a3 a2 a1 a0 (zdc_L0 a3 a2 a1 a0 Q0_) Q0_ s0_0 s0_1 s0_2):zdc_L0 a3 a2 a1 a0 Q0_ s0_0 s0_1 s0_2:=LW_runT _ (zdc_h0 a3 a2 a1 a0 s0_0 s0_1 s0_2) h (by kernel_rfl)
def zdc_R (a0:zat)(v:(List zaa)×(List zab)):A:=(.tup [(.t (.sl 9 ((v.1:List zaa).map zaa.enc))),(.t (.sl 2 ((v.2:List zab).map zab.enc)))])
def zdc_O (a0:zat)(v:(List zaa)×(List zab)):List (Nat×O):=[(700,(.box [(.ref 701),(.ref 702),(.t (boo a0.made))])),(701,(.row 5 ((a0.l:List zag).map zag.enc))),(702,(.row 1 ((a0.prices:List Int).map eN)))]
def zdc_e (a0:zat)(Q:((List zaa)×(List zab))→Prop)(v:(List zaa)×(List zab)):Prop:=Rt (zdc_R a0) (zdc_O a0) v (Q v)
def zdc_r (a0:zat)(a1:zav)(a2:(List zab))(a3:Int)(v:(List zaa)×(List zab)):Prop:=Con Tryz.prog 30 [(.at 700 0),(.agg [(.t (i64 a1.ID)),(.t (i64 a1.Version)),(.t (str a1.Currency)),(.t (i64 a1.Rating)),(.t (i64 a1.Least)),(.t (i64 a1.Most)),(.t (.sl 3 ((a1.Cuts:List zbp).map zbp.enc))),(.t (i64 a1.Issuer)),(.t (i64 a1.Asset)),(.t (.sl 1 ((a1.Barred:List Int).map eN)))]),(.t (.sl 2 ((a2:List zab).map zab.enc))),(.t (i64 a3))] [(700,(.box [(.ref 701),(.ref 702),(.t (boo a0.made))])),(701,(.row 5 ((a0.l:List zag).map zag.enc))),(702,(.row 1 ((a0.prices:List Int).map eN)))] (fun r_ o_=>r_=zdc_R a0 v∧o_=zdc_O a0 v)
def zdc_w (a0:zat)(a1:zav)(a2:(List zab))(a3:Int)(Q_:((List zaa)×(List zab))→Prop):Prop:=zdc_L0 a3 a2 a1 a0 (fun (y1:(List zab)×(List zaa))=>∃ r2:(List zaa),(zgw_r y1.2 r2)∧(zdc_e a0 Q_ (r2,y1.1))) 0 [] []
def zdc_h (a0:zat)(a1:zav)(a2:(List zab))(a3:Int):HT ((List zaa)×(List zab)) := .loop [.own 10 47 9, .own 11 43 2, .keep [0,3,5,10,11,16,17,18] [5,43,47,700,701,702]] (.out ((List zab)×(List zaa)) (.exit 0) [.keep [10,11] [43,47,700,701,702]] (zdc_q0_0 a3 a2 a1 a0) (fun y1 => .reg 11 [.frz 47] [] (.ex ((List zaa)) fun r2 => .op 11 1 (.call [] (.t (.sl 9 ((r2:List zaa).map zaa.enc))) []) (.fin [] [] (r2,y1.1)))) (.nil))
theorem zdc_of {a0 a1 a2 a3 v} (h:zdc_w a0 a1 a2 a3 (fun v_=>v_=v)):zdc_r a0 a1 a2 a3 v:=Con_of1 Tryz.call30 Tryz.func30 [700,701,702] (zdc_h a0 a1 a2 a3) h
def zbv_s0 (a0:(List zae))(a1:ByteArray)(s0_0:Int):St:=mkSt [(0,(.t (.sl 6 ((a0:List zae).map zae.enc)))),(1,(.t (str a1))),(5,(.t (i64 s0_0)))] [] []
def zbv_q0_0 (a0:(List zae))(a1:ByteArray)(y:Int):St:=mkSt [(4,(.t (i64 y)))] [] []
def zbv_x0_0 (a0:(List zae))(a1:ByteArray)(Q:Int→Prop)(y:Int):Prop:=Lf .ret (zbv_q0_0 a0 a1) y (Q y)
def zbv_q0_1 (a0:(List zae))(a1:ByteArray)(y:Unit):St:=mkSt [] [] []
def zbv_x0_1 (a0:(List zae))(a1:ByteArray)(Q:Unit→Prop)(y:Unit):Prop:=Lf (.exit 0) (zbv_q0_1 a0 a1) y (Q y)
def zbv_L0 (a0:(List zae))(a1:ByteArray)(Q0_:Int→Prop)(Q1_:Unit→Prop)(s0_0:Int):Prop:=LW Tryz.prog 21 (loopAt Tryz.f56 0) (Outs.K (.cons .ret [.keep [4] []] (zbv_q0_0 a0 a1) Q0_ (.one (.exit 0) [.keep [] []] (zbv_q0_1 a0 a1) Q1_))) (zbv_s0 a0 a1 s0_0)
def zbv_w0 (a0:(List zae))(a1:ByteArray)(X_:Int→Prop)(Q0_:Int→Prop)(Q1_:Unit→Prop)(s0_0:Int):Prop:=Br (decide (s0_0<(lenM zae.enc a0))) (∃ xa1:zae,Got zae.enc a0 s0_0 xa1 (Br (strEq xa1.A.ISIN a1) (zbv_x0_0 a0 a1 Q0_ s0_0) (Num .i64 (s0_0+1) (X_ (s0_0+1))))) (zbv_x0_1 a0 a1 Q1_ ())
def zbv_h0 (a0:(List zae))(a1:ByteArray)(s0_0:Int):HT (Int ⊕ Unit) := .both 9 (.ex (zae) fun xa1 => .op 4 2 (.row (s0_0:Int).toNat (zae.enc xa1)) (.both 19 (.ret [.keep [4] []] (.inl s0_0)) (.op 3 1 (.nw) (.round [.keep [0,1,5] []])))) (.ret [.keep [] []] (.inr ()))
theorem zbv_l0 {a0 a1 Q0_ Q1_ s0_0} (h:zbv_w0 a0 a1 (zbv_L0 a0 a1 Q0_ Q1_) Q0_ Q1_ s0_0):zbv_L0 a0 a1 Q0_ Q1_ s0_0:=LW_runT _ (zbv_h0 a0 a1 s0_0) h (by kernel_rfl)
def zbv_R (v:Int):A:=(.t (i64 v))
def zbv_O (v:Int):List (Nat×O):=[]
def zbv_e (Q:Int→Prop)(v:Int):Prop:=Rt (zbv_R) (zbv_O) v (Q v)
def zbv_r (a0:(List zae))(a1:ByteArray)(v:Int):Prop:=Con Tryz.prog 56 [(.t (.sl 6 ((a0:List zae).map zae.enc))),(.t (str a1))] [] (fun r_ o_=>r_=zbv_R v∧o_=zbv_O v)
def zbv_w (a0:(List zae))(a1:ByteArray)(Q_:Int→Prop):Prop:=zbv_L0 a0 a1 (fun (y1:Int)=>zbv_e Q_ y1) (fun (y1:Unit)=>zbv_e Q_ (-1)) 0
def zbv_h (a0:(List zae))(a1:ByteArray):HT Int := .loop [.keep [0,1,5] []] (.out (Int) .ret [.keep [4] []] (zbv_q0_0 a0 a1) (fun y1 => .fin [] [] y1) (.out (Unit) (.exit 0) [.keep [] []] (zbv_q0_1 a0 a1) (fun y1 => .fin [] [] (-1)) (.nil)))
theorem zbv_of {a0 a1 v} (h:zbv_w a0 a1 (fun v_=>v_=v)):zbv_r a0 a1 v:=Con_of1 Tryz.call56 Tryz.func56 [] (zbv_h a0 a1) h
def zez_R (v:Int):A:=(.t (i64 v))
def zez_O (v:Int):List (Nat×O):=[]
def zez_e (Q:Int→Prop)(v:Int):Prop:=Rt (zez_R) (zez_O) v (Q v)
def zez_r (a0:zag)(a1:Int)(v:Int):Prop:=Con Tryz.prog 126 [(.agg [(.t (str a0.ISIN)),(.t (i64 a0.Issuer)),(.t (i64 a0.Rating)),(.t (i64 a0.Maturity)),(.t (str a0.Currency))]),(.t (i64 a1))] [] (fun r_ o_=>r_=zez_R v∧o_=zez_O v)
def zez_w (a0:zag)(a1:Int)(Q_:Int→Prop):Prop:=Br (decide (a1<0)) (zez_e Q_ (-1)) (Br (decide (a1>200000)) (zez_e Q_ (-1)) (Num .i64 (a0.Maturity-a1) (zez_e Q_ (a0.Maturity-a1))))
def zez_h (a0:zag)(a1:Int):HT Int := .bo 1 2 (.fin [] [] (-1)) (.both 10 (.fin [] [] (-1)) (.op 3 3 (.nw) (.fin [] [] (a0.Maturity-a1))))
theorem zez_of {a0 a1 v} (h:zez_w a0 a1 (fun v_=>v_=v)):zez_r a0 a1 v:=Con_of1 Tryz.call126 Tryz.func126 [] (zez_h a0 a1) h
def zcl_s0 (r1:Int)(a0:zav)(a1:zag)(s0_0:Int):St:=mkSt [(3,(.at 3 0)),(4,(.at 4 0)),(8,(.t (i64 r1))),(9,(.t (i64 s0_0)))] [(3,(.box [(.t (i64 a0.ID)),(.t (i64 a0.Version)),(.t (str a0.Currency)),(.t (i64 a0.Rating)),(.t (i64 a0.Least)),(.t (i64 a0.Most)),(.t (.sl 3 ((a0.Cuts:List zbp).map zbp.enc))),(.t (i64 a0.Issuer)),(.t (i64 a0.Asset)),(.t (.sl 1 ((a0.Barred:List Int).map eN)))])),(4,(.box [(.t (str a1.ISIN)),(.t (i64 a1.Issuer)),(.t (i64 a1.Rating)),(.t (i64 a1.Maturity)),(.t (str a1.Currency))]))] []
def zcl_q0_0 (r1:Int)(a0:zav)(a1:zag)(y:Int):St:=mkSt [(6,(.t (i64 y))),(7,(.t (boo true)))] [] []
def zcl_x0_0 (r1:Int)(a0:zav)(a1:zag)(Q:Int→Prop)(y:Int):Prop:=Lf .ret (zcl_q0_0 r1 a0 a1) y (Q y)
def zcl_q0_1 (r1:Int)(a0:zav)(a1:zag)(y:Unit):St:=mkSt [] [] []
def zcl_x0_1 (r1:Int)(a0:zav)(a1:zag)(Q:Unit→Prop)(y:Unit):Prop:=Lf (.exit 0) (zcl_q0_1 r1 a0 a1) y (Q y)
def zcl_L0 (r1:Int)(a0:zav)(a1:zag)(Q0_:Int→Prop)(Q1_:Unit→Prop)(s0_0:Int):Prop:=LW Tryz.prog 49 (loopAt Tryz.f125 0) (Outs.K (.cons .ret [.keep [6,7] []] (zcl_q0_0 r1 a0 a1) Q0_ (.one (.exit 0) [.keep [] []] (zcl_q0_1 r1 a0 a1) Q1_))) (zcl_s0 r1 a0 a1 s0_0)
def zcl_w0 (r1:Int)(a0:zav)(a1:zag)(X_:Int→Prop)(Q0_:Int→Prop)(Q1_:Unit→Prop)(s0_0:Int):Prop:=Br (decide (s0_0<(lenM zbp.enc a0.Cuts))) (Br (decide (r1≥0)) (∃ xa1:zbp,Got zbp.enc a0.Cuts s0_0 xa1 (Br (decide (xa1.Days≥r1)) (Got zbp.enc a0.Cuts s0_0 xa1 (Br (decide (xa1.Rating≥a1.Rating)) (Got zbp.enc a0.Cuts s0_0 xa1 (zcl_x0_0 r1 a0 a1 Q0_ xa1.Cut)) (Num .i64 (s0_0+1) (X_ (s0_0+1))))) (Num .i64 (s0_0+1) (X_ (s0_0+1))))) (zcl_x0_1 r1 a0 a1 Q1_ ())) (zcl_x0_1 r1 a0 a1 Q1_ ())
def zcl_h0 (r1:Int)(a0:zav)(a1:zag)(s0_0:Int):HT (Int ⊕ Unit) := .bo 3 5 (.both 21 (.ex (zbp) fun xa1 => .op 5 3 (.row (s0_0:Int).toNat (zbp.enc xa1)) (.bo 5 8 (.op 5 12 (.row (s0_0:Int).toNat (zbp.enc xa1)) (.both 42 (.op 6 3 (.row (s0_0:Int).toNat (zbp.enc xa1)) (.ret [.keep [6,7] []] (.inl xa1.Cut))) (.op 4 1 (.nw) (.round [.keep [3,4,8,9] [3,4]])))) (.op 4 1 (.nw) (.round [.keep [3,4,8,9] [3,4]])))) (.ret [.keep [] []] (.inr ()))) (.ret [.keep [] []] (.inr ()))
theorem zcl_l0 {r1 a0 a1 Q0_ Q1_ s0_0} (h:zcl_w0 r1 a0 a1 (zcl_L0 r1 a0 a1 Q0_ Q1_) Q0_ Q1_ s0_0):zcl_L0 r1 a0 a1 Q0_ Q1_ s0_0:=LW_runT _ (zcl_h0 r1 a0 a1 s0_0) h (by kernel_rfl)
def zcl_R (v:Int×Bool):A:=(.tup [(.t (i64 v.1)),(.t (boo v.2))])
def zcl_O (v:Int×Bool):List (Nat×O):=[]
def zcl_e (Q:(Int×Bool)→Prop)(v:Int×Bool):Prop:=Rt (zcl_R) (zcl_O) v (Q v)
def zcl_r (a0:zav)(a1:zag)(a2:Int)(v:Int×Bool):Prop:=Con Tryz.prog 125 [(.agg [(.t (i64 a0.ID)),(.t (i64 a0.Version)),(.t (str a0.Currency)),(.t (i64 a0.Rating)),(.t (i64 a0.Least)),(.t (i64 a0.Most)),(.t (.sl 3 ((a0.Cuts:List zbp).map zbp.enc))),(.t (i64 a0.Issuer)),(.t (i64 a0.Asset)),(.t (.sl 1 ((a0.Barred:List Int).map eN)))]),(.agg [(.t (str a1.ISIN)),(.t (i64 a1.Issuer)),(.t (i64 a1.Rating)),(.t (i64 a1.Maturity)),(.t (str a1.Currency))]),(.t (i64 a2))] [] (fun r_ o_=>r_=zcl_R v∧o_=zcl_O v)
def zcl_w (a0:zav)(a1:zag)(a2:Int)(Q_:(Int×Bool)→Prop):Prop:=∃ r1:Int,(zez_r a1 a2 r1)∧(zcl_L0 r1 a0 a1 (fun (y2:Int)=>zcl_e Q_ (y2,true)) (fun (y2:Unit)=>zcl_e Q_ (0,false)) 0)
def zcl_h (a0:zav)(a1:zag)(a2:Int):HT (Int×Bool) := .ex (Int) fun r1 => .op 1 2 (.call [] (.t (i64 r1)) []) (.loop [.keep [3,4,8,9] [3,4]] (.out (Int) .ret [.keep [6,7] []] (zcl_q0_0 r1 a0 a1) (fun y2 => .fin [] [] (y2,true)) (.out (Unit) (.exit 0) [.keep [] []] (zcl_q0_1 r1 a0 a1) (fun y2 => .fin [] [] (0,false)) (.nil))))
theorem zcl_of {a0 a1 a2 v} (h:zcl_w a0 a1 a2 (fun v_=>v_=v)):zcl_r a0 a1 a2 v:=Con_of1 Tryz.call125 Tryz.func125 [] (zcl_h a0 a1 a2) h
def zeg_R (v:zac×Int):A:=(.tup [(.agg [(.t (str v.1.Lot.ISIN)),(.t (i64 v.1.Lot.Qty)),(.t (str v.1.Asset.ISIN)),(.t (i64 v.1.Asset.Issuer)),(.t (i64 v.1.Asset.Rating)),(.t (i64 v.1.Asset.Maturity)),(.t (str v.1.Asset.Currency)),(.t (i64 v.1.Price)),(.t (i64 v.1.Cut))]),(.t (i64 v.2))])
def zeg_O (v:zac×Int):List (Nat×O):=[]
def zeg_e (Q:(zac×Int)→Prop)(v:zac×Int):Prop:=Rt (zeg_R) (zeg_O) v (Q v)
def zeg_r (a0:(List zae))(a1:zav)(a2:zab)(a3:Int)(v:zac×Int):Prop:=Con Tryz.prog 73 [(.t (.sl 6 ((a0:List zae).map zae.enc))),(.agg [(.t (i64 a1.ID)),(.t (i64 a1.Version)),(.t (str a1.Currency)),(.t (i64 a1.Rating)),(.t (i64 a1.Least)),(.t (i64 a1.Most)),(.t (.sl 3 ((a1.Cuts:List zbp).map zbp.enc))),(.t (i64 a1.Issuer)),(.t (i64 a1.Asset)),(.t (.sl 1 ((a1.Barred:List Int).map eN)))]),(.agg [(.t (str a2.ISIN)),(.t (i64 a2.Qty))]),(.t (i64 a3))] [] (fun r_ o_=>r_=zeg_R v∧o_=zeg_O v)
def zeg_w (a0:(List zae))(a1:zav)(a2:zab)(a3:Int)(Q_:(zac×Int)→Prop):Prop:=∃ r1:Int,(zbv_r a0 a2.ISIN r1)∧(Br (decide (r1<0)) (zeg_e Q_ ((⟨(⟨ByteArray.empty,0⟩:zab),(⟨ByteArray.empty,0,0,0,ByteArray.empty⟩:zag),0,0⟩:zac),21)) (∃ x2:zae,Got zae.enc a0 r1 x2 (Br (x2.Price==0) (zeg_e Q_ ((⟨(⟨ByteArray.empty,0⟩:zab),(⟨ByteArray.empty,0,0,0,ByteArray.empty⟩:zag),0,0⟩:zac),31)) (Got zae.enc a0 r1 x2 (∃ r3:Int×Bool,(zcl_r a1 x2.A a3 r3)∧(Br (!r3.2) (zeg_e Q_ ((⟨(⟨ByteArray.empty,0⟩:zab),(⟨ByteArray.empty,0,0,0,ByteArray.empty⟩:zag),0,0⟩:zac),23)) (Br (decide (a2.Qty<0)) (zeg_e Q_ ((⟨(⟨ByteArray.empty,0⟩:zab),(⟨ByteArray.empty,0,0,0,ByteArray.empty⟩:zag),0,0⟩:zac),1)) (Br (decide (a2.Qty>1125899906842624)) (zeg_e Q_ ((⟨(⟨ByteArray.empty,0⟩:zab),(⟨ByteArray.empty,0,0,0,ByteArray.empty⟩:zag),0,0⟩:zac),1)) (Got zae.enc a0 r1 x2 (Got zae.enc a0 r1 x2 (zeg_e Q_ ((⟨a2,x2.A,x2.Price,r3.1⟩:zac),0))))))))))))
def zeg_h (a0:(List zae))(a1:zav)(a2:zab)(a3:Int):HT (zac×Int) := .ex (Int) fun r1 => .op 1 3 (.call [] (.t (i64 r1)) []) (.both 18 (.fin [] [] ((⟨(⟨ByteArray.empty,0⟩:zab),(⟨ByteArray.empty,0,0,0,ByteArray.empty⟩:zag),0,0⟩:zac),21)) (.ex (zae) fun x2 => .op 4 2 (.row (r1:Int).toNat (zae.enc x2)) (.both 25 (.fin [] [] ((⟨(⟨ByteArray.empty,0⟩:zab),(⟨ByteArray.empty,0,0,0,ByteArray.empty⟩:zag),0,0⟩:zac),31)) (.op 6 3 (.row (r1:Int).toNat (zae.enc x2)) (.ex (Int×Bool) fun r3 => .op 6 7 (.call [] (.tup [(.t (i64 r3.1)),(.t (boo r3.2))]) []) (.both 39 (.fin [] [] ((⟨(⟨ByteArray.empty,0⟩:zab),(⟨ByteArray.empty,0,0,0,ByteArray.empty⟩:zag),0,0⟩:zac),23)) (.bo 9 3 (.fin [] [] ((⟨(⟨ByteArray.empty,0⟩:zab),(⟨ByteArray.empty,0,0,0,ByteArray.empty⟩:zag),0,0⟩:zac),1)) (.both 48 (.fin [] [] ((⟨(⟨ByteArray.empty,0⟩:zab),(⟨ByteArray.empty,0,0,0,ByteArray.empty⟩:zag),0,0⟩:zac),1)) (.op 11 3 (.row (r1:Int).toNat (zae.enc x2)) (.op 11 8 (.row (r1:Int).toNat (zae.enc x2)) (.fin [] [] ((⟨a2,x2.A,x2.Price,r3.1⟩:zac),0))))))))))))
theorem zeg_of {a0 a1 a2 a3 v} (h:zeg_w a0 a1 a2 a3 (fun v_=>v_=v)):zeg_r a0 a1 a2 a3 v:=Con_of1 Tryz.call73 Tryz.func73 [] (zeg_h a0 a1 a2 a3) h
def zcg_s0 (a0:(List Int))(a1:Int)(s0_0:Int):St:=mkSt [(0,(.t (.sl 1 ((a0:List Int).map eN)))),(1,(.t (i64 a1))),(5,(.t (i64 s0_0)))] [] []
def zcg_q0_0 (a0:(List Int))(a1:Int)(y:Unit):St:=mkSt [(4,(.t (boo true)))] [] []
def zcg_x0_0 (a0:(List Int))(a1:Int)(Q:Unit→Prop)(y:Unit):Prop:=Lf .ret (zcg_q0_0 a0 a1) y (Q y)
def zcg_q0_1 (a0:(List Int))(a1:Int)(y:Unit):St:=mkSt [] [] []
def zcg_x0_1 (a0:(List Int))(a1:Int)(Q:Unit→Prop)(y:Unit):Prop:=Lf (.exit 0) (zcg_q0_1 a0 a1) y (Q y)
def zcg_L0 (a0:(List Int))(a1:Int)(Q0_:Unit→Prop)(Q1_:Unit→Prop)(s0_0:Int):Prop:=LW Tryz.prog 18 (loopAt Tryz.f127 0) (Outs.K (.cons .ret [.keep [4] []] (zcg_q0_0 a0 a1) Q0_ (.one (.exit 0) [.keep [] []] (zcg_q0_1 a0 a1) Q1_))) (zcg_s0 a0 a1 s0_0)
def zcg_w0 (a0:(List Int))(a1:Int)(X_:Int→Prop)(Q0_:Unit→Prop)(Q1_:Unit→Prop)(s0_0:Int):Prop:=Br (decide (s0_0<(lenM eN a0))) (∃ xa1:Int,Got eN a0 s0_0 xa1 (Br (xa1==a1) (zcg_x0_0 a0 a1 Q0_ ()) (Num .i64 (s0_0+1) (X_ (s0_0+1))))) (zcg_x0_1 a0 a1 Q1_ ())
def zcg_h0 (a0:(List Int))(a1:Int)(s0_0:Int):HT (Unit ⊕ Unit) := .both 9 (.ex (Int) fun xa1 => .op 4 2 (.row (s0_0:Int).toNat (eN xa1)) (.both 17 (.ret [.keep [4] []] (.inl ())) (.op 3 1 (.nw) (.round [.keep [0,1,5] []])))) (.ret [.keep [] []] (.inr ()))
theorem zcg_l0 {a0 a1 Q0_ Q1_ s0_0} (h:zcg_w0 a0 a1 (zcg_L0 a0 a1 Q0_ Q1_) Q0_ Q1_ s0_0):zcg_L0 a0 a1 Q0_ Q1_ s0_0:=LW_runT _ (zcg_h0 a0 a1 s0_0) h (by kernel_rfl)
def zcg_R (v:Bool):A:=(.t (boo v))
def zcg_O (v:Bool):List (Nat×O):=[]
def zcg_e (Q:Bool→Prop)(v:Bool):Prop:=Rt (zcg_R) (zcg_O) v (Q v)
def zcg_r (a0:(List Int))(a1:Int)(v:Bool):Prop:=Con Tryz.prog 127 [(.t (.sl 1 ((a0:List Int).map eN))),(.t (i64 a1))] [] (fun r_ o_=>r_=zcg_R v∧o_=zcg_O v)
def zcg_w (a0:(List Int))(a1:Int)(Q_:Bool→Prop):Prop:=zcg_L0 a0 a1 (fun (y1:Unit)=>zcg_e Q_ true) (fun (y1:Unit)=>zcg_e Q_ false) 0
def zcg_h (a0:(List Int))(a1:Int):HT Bool := .loop [.keep [0,1,5] []] (.out (Unit) .ret [.keep [4] []] (zcg_q0_0 a0 a1) (fun y1 => .fin [] [] true) (.out (Unit) (.exit 0) [.keep [] []] (zcg_q0_1 a0 a1) (fun y1 => .fin [] [] false) (.nil)))
theorem zcg_of {a0 a1 v} (h:zcg_w a0 a1 (fun v_=>v_=v)):zcg_r a0 a1 v:=Con_of1 Tryz.call127 Tryz.func127 [] (zcg_h a0 a1) h
def zei_R (v:Int):A:=(.t (i64 v))
def zei_O (v:Int):List (Nat×O):=[]
def zei_e (Q:Int→Prop)(v:Int):Prop:=Rt (zei_R) (zei_O) v (Q v)
def zei_r (a0:zav)(a1:zag)(a2:Int)(v:Int):Prop:=Con Tryz.prog 74 [(.agg [(.t (i64 a0.ID)),(.t (i64 a0.Version)),(.t (str a0.Currency)),(.t (i64 a0.Rating)),(.t (i64 a0.Least)),(.t (i64 a0.Most)),(.t (.sl 3 ((a0.Cuts:List zbp).map zbp.enc))),(.t (i64 a0.Issuer)),(.t (i64 a0.Asset)),(.t (.sl 1 ((a0.Barred:List Int).map eN)))]),(.agg [(.t (str a1.ISIN)),(.t (i64 a1.Issuer)),(.t (i64 a1.Rating)),(.t (i64 a1.Maturity)),(.t (str a1.Currency))]),(.t (i64 a2))] [] (fun r_ o_=>r_=zei_R v∧o_=zei_O v)
def zei_w (a0:zav)(a1:zag)(a2:Int)(Q_:Int→Prop):Prop:=Br (!strEq a1.Currency a0.Currency) (zei_e Q_ 1) (Br (decide (a1.Rating>a0.Rating)) (zei_e Q_ 2) (∃ r1:Int,(zez_r a1 a2 r1)∧(Br (decide (r1<1)) (zei_e Q_ 3) (Br (decide (r1<a0.Least)) (zei_e Q_ 3) (Br (decide (r1>a0.Most)) (zei_e Q_ 4) (∃ r2:Bool,(zcg_r a0.Barred a1.Issuer r2)∧(Br r2 (zei_e Q_ 5) (zei_e Q_ 0))))))))
def zei_h (a0:zav)(a1:zag)(a2:Int):HT Int := .both 12 (.fin [] [] 1) (.both 17 (.fin [] [] 2) (.ex (Int) fun r1 => .op 5 2 (.call [] (.t (i64 r1)) []) (.bo 6 2 (.fin [] [] 3) (.both 28 (.fin [] [] 3) (.both 32 (.fin [] [] 4) (.ex (Bool) fun r2 => .op 10 4 (.call [] (.t (boo r2)) []) (.both 37 (.fin [] [] 5) (.fin [] [] 0))))))))
theorem zei_of {a0 a1 a2 v} (h:zei_w a0 a1 a2 (fun v_=>v_=v)):zei_r a0 a1 a2 v:=Con_of1 Tryz.call74 Tryz.func74 [] (zei_h a0 a1 a2) h
def zbt_s0 (a0:(List zae))(a2:(List zab))(a3:Int)(a1:zav)(s0_0:Int)(s0_1:(List zac))(s0_2:(List zab)):St:=mkSt [(0,(.t (.sl 6 ((a0:List zae).map zae.enc)))),(2,(.t (.sl 2 ((a2:List zab).map zab.enc)))),(3,(.t (i64 a3))),(5,(.at 5 0)),(10,(.ref 45)),(11,(.ref 52)),(12,(.t (i64 s0_0)))] [(5,(.box [(.t (i64 a1.ID)),(.t (i64 a1.Version)),(.t (str a1.Currency)),(.t (i64 a1.Rating)),(.t (i64 a1.Least)),(.t (i64 a1.Most)),(.t (.sl 3 ((a1.Cuts:List zbp).map zbp.enc))),(.t (i64 a1.Issuer)),(.t (i64 a1.Asset)),(.t (.sl 1 ((a1.Barred:List Int).map eN)))])),(45,(.row 9 ((s0_1:List zac).map zac.enc))),(52,(.row 2 ((s0_2:List zab).map zab.enc)))] []
def zbt_q0_0 (a0:(List zae))(a2:(List zab))(a3:Int)(a1:zav)(y:(List zac)×(List zab)):St:=mkSt [(10,(.ref 45)),(11,(.ref 52))] [(45,(.row 9 ((y.1:List zac).map zac.enc))),(52,(.row 2 ((y.2:List zab).map zab.enc)))] []
def zbt_x0_0 (a0:(List zae))(a2:(List zab))(a3:Int)(a1:zav)(Q:((List zac)×(List zab))→Prop)(y:(List zac)×(List zab)):Prop:=Lf (.exit 0) (zbt_q0_0 a0 a2 a3 a1) y (Q y)
def zbt_L0 (a0:(List zae))(a2:(List zab))(a3:Int)(a1:zav)(Q0_:((List zac)×(List zab))→Prop)(s0_0:Int)(s0_1:(List zac))(s0_2:(List zab)):Prop:=LW Tryz.prog 56 (loopAt Tryz.f36 0) (Outs.K (.one (.exit 0) [.keep [10,11] [45,52]] (zbt_q0_0 a0 a2 a3 a1) Q0_)) (zbt_s0 a0 a2 a3 a1 s0_0 s0_1 s0_2)
def zbt_w0 (a0:(List zae))(a2:(List zab))(a3:Int)(a1:zav)(X_:Int→(List zac)→(List zab)→Prop)(Q0_:((List zac)×(List zab))→Prop)(s0_0:Int)(s0_1:(List zac))(s0_2:(List zab)):Prop:=Br (decide (s0_0<(lenM zab.enc a2))) (∃ xa1:zab,Got zab.enc a2 s0_0 xa1 (∃ ra2:zac×Int,(zeg_r a0 a1 xa1 a3 ra2)∧(Br (ra2.2==0) (∃ ra3:Int,(zei_r a1 ra2.1.Asset a3 ra3)∧(Br (ra3==0) (App2 96 zac.enc s0_1 [ra2.1] (Num .i64 (s0_0+1) (X_ (s0_0+1) (s0_1++[ra2.1]) s0_2))) (Got zab.enc a2 s0_0 xa1 (App2 24 zab.enc s0_2 [xa1] (Num .i64 (s0_0+1) (X_ (s0_0+1) s0_1 (s0_2++[xa1]))))))) (Got zab.enc a2 s0_0 xa1 (App2 24 zab.enc s0_2 [xa1] (Num .i64 (s0_0+1) (X_ (s0_0+1) s0_1 (s0_2++[xa1])))))))) (zbt_x0_0 a0 a2 a3 a1 Q0_ (s0_1,s0_2))
def zbt_h0 (a0:(List zae))(a2:(List zab))(a3:Int)(a1:zav)(s0_0:Int)(s0_1:(List zac))(s0_2:(List zab)):HT ((List zac)×(List zab)) := .both 18 (.ex (zab) fun xa1 => .op 6 4 (.row (s0_0:Int).toNat (zab.enc xa1)) (.ex (zac×Int) fun ra2 => .op 6 7 (.call [] (.tup [(.agg [(.t (str ra2.1.Lot.ISIN)),(.t (i64 ra2.1.Lot.Qty)),(.t (str ra2.1.Asset.ISIN)),(.t (i64 ra2.1.Asset.Issuer)),(.t (i64 ra2.1.Asset.Rating)),(.t (i64 ra2.1.Asset.Maturity)),(.t (str ra2.1.Asset.Currency)),(.t (i64 ra2.1.Price)),(.t (i64 ra2.1.Cut))]),(.t (i64 ra2.2))]) []) (.bo 7 2 (.ex (Int) fun ra3 => .op 7 7 (.call [] (.t (i64 ra3)) []) (.both 41 (.op 8 3 (.no) (.rw 45 (((s0_1++[ra2.1]):List zac).map zac.enc) (.op 5 1 (.nw) (.round [.keep [0,2,3,5,10,11,12] [5,45,52]])))) (.op 9 3 (.row (s0_0:Int).toNat (zab.enc xa1)) (.op 9 6 (.no) (.rw 52 (((s0_2++[xa1]):List zab).map zab.enc) (.op 5 1 (.nw) (.round [.keep [0,2,3,5,10,11,12] [5,45,52]]))))))) (.op 9 3 (.row (s0_0:Int).toNat (zab.enc xa1)) (.op 9 6 (.no) (.rw 52 (((s0_2++[xa1]):List zab).map zab.enc) (.op 5 1 (.nw) (.round [.keep [0,2,3,5,10,11,12] [5,45,52]])))))))) (.ret [.keep [10,11] [45,52]] (s0_1,s0_2))
theorem zbt_l0 {a0 a2 a3 a1 Q0_ s0_0 s0_1 s0_2} (h:zbt_w0 a0 a2 a3 a1 (zbt_L0 a0 a2 a3 a1 Q0_) Q0_ s0_0 s0_1 s0_2):zbt_L0 a0 a2 a3 a1 Q0_ s0_0 s0_1 s0_2:=LW_runT _ (zbt_h0 a0 a2 a3 a1 s0_0 s0_1 s0_2) h (by kernel_rfl)
def zbt_R (v:(List zac)×(List zab)):A:=(.tup [(.t (.sl 9 ((v.1:List zac).map zac.enc))),(.t (.sl 2 ((v.2:List zab).map zab.enc)))])
def zbt_O (v:(List zac)×(List zab)):List (Nat×O):=[]
def zbt_e (Q:((List zac)×(List zab))→Prop)(v:(List zac)×(List zab)):Prop:=Rt (zbt_R) (zbt_O) v (Q v)
def zbt_r (a0:(List zae))(a1:zav)(a2:(List zab))(a3:Int)(v:(List zac)×(List zab)):Prop:=Con Tryz.prog 36 [(.t (.sl 6 ((a0:List zae).map zae.enc))),(.agg [(.t (i64 a1.ID)),(.t (i64 a1.Version)),(.t (str a1.Currency)),(.t (i64 a1.Rating)),(.t (i64 a1.Least)),(.t (i64 a1.Most)),(.t (.sl 3 ((a1.Cuts:List zbp).map zbp.enc))),(.t (i64 a1.Issuer)),(.t (i64 a1.Asset)),(.t (.sl 1 ((a1.Barred:List Int).map eN)))]),(.t (.sl 2 ((a2:List zab).map zab.enc))),(.t (i64 a3))] [] (fun r_ o_=>r_=zbt_R v∧o_=zbt_O v)
def zbt_w (a0:(List zae))(a1:zav)(a2:(List zab))(a3:Int)(Q_:((List zac)×(List zab))→Prop):Prop:=zbt_L0 a0 a2 a3 a1 (fun (y1:(List zac)×(List zab))=>∃ r2:(List zac),(zaz_r y1.1 r2)∧(zbt_e Q_ (r2,y1.2))) 0 [] []
def zbt_h (a0:(List zae))(a1:zav)(a2:(List zab))(a3:Int):HT ((List zac)×(List zab)) := .loop [.own 10 45 9, .own 11 52 2, .keep [0,2,3,5,10,11,12] [5,45,52]] (.out ((List zac)×(List zab)) (.exit 0) [.keep [10,11] [45,52]] (zbt_q0_0 a0 a2 a3 a1) (fun y1 => .reg 10 [.frz 45] [] (.ex ((List zac)) fun r2 => .op 10 1 (.call [] (.t (.sl 9 ((r2:List zac).map zac.enc))) []) (.fin [] [] (r2,y1.2)))) (.nil))
theorem zbt_of {a0 a1 a2 a3 v} (h:zbt_w a0 a1 a2 a3 (fun v_=>v_=v)):zbt_r a0 a1 a2 a3 v:=Con_of1 Tryz.call36 Tryz.func36 [] (zbt_h a0 a1 a2 a3) h
end Go.Proofs.YtjlkmdmaimednaaGreat.R
