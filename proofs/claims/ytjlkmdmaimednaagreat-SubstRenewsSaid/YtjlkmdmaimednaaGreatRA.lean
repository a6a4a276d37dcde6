import Derived.Test.YtjlkmdmaimednaaGreatAbX
import Derived.Test.YtjlkmdmaimednaaGreatRA1
import Derived.Test.YtjlkmdmaimednaaGreatTKeys
set_option linter.unusedVariables false
set_option linter.unusedSimpArgs false
open Go Go.Ab Go.Proofs
namespace Go.Proofs.YtjlkmdmaimednaaGreat.R
set_option linter.unusedVariables false
structure zbo where
 ISIN:ByteArray
 Price:Int
def zbo.enc (x:zbo):List T:=[(str x.ISIN),(i64 x.Price)]
structure zed where
 Known:(List zag)
 Prices:(List zbo)
def zed.enc (x:zed):List T:=[(.sl 5 ((x.Known:List zag).map zag.enc)),(.sl 2 ((x.Prices:List zbo).map zbo.enc))]
structure zbn where
 Basket:zav
 Need:Int
 Have:(List zab)
 Day:Int
def zbn.enc (x:zbn):List T:=[(i64 x.Basket.ID),(i64 x.Basket.Version),(str x.Basket.Currency),(i64 x.Basket.Rating),(i64 x.Basket.Least),(i64 x.Basket.Most),(.sl 3 ((x.Basket.Cuts:List zbp).map zbp.enc)),(i64 x.Basket.Issuer),(i64 x.Basket.Asset),(.sl 1 ((x.Basket.Barred:List Int).map eN)),(i64 x.Need),(.sl 2 ((x.Have:List zab).map zab.enc)),(i64 x.Day)]
structure zgd where
 To:(List zab)
 Back:(List zab)
def zgd.enc (x:zgd):List T:=[(.sl 2 ((x.To:List zab).map zab.enc)),(.sl 2 ((x.Back:List zab).map zab.enc))]
structure zcy where
 Basket:zav
 Need:Int
 Have:(List zab)
 Day:Int
def zcy.enc (x:zcy):List T:=[(i64 x.Basket.ID),(i64 x.Basket.Version),(str x.Basket.Currency),(i64 x.Basket.Rating),(i64 x.Basket.Least),(i64 x.Basket.Most),(.sl 3 ((x.Basket.Cuts:List zbp).map zbp.enc)),(i64 x.Basket.Issuer),(i64 x.Basket.Asset),(.sl 1 ((x.Basket.Barred:List Int).map eN)),(i64 x.Need),(.sl 2 ((x.Have:List zab).map zab.enc)),(i64 x.Day)]
structure zau where
 need:Int
 issuer:Int
 asset:Int
 issuers:(GM Int Int)
 assets:(GM ByteArray Int)
 sum:Int
structure zhf where
 Issuer:Int
 ISIN:ByteArray
 Cover:Int
 Limit:Int
def zhf.enc (x:zhf):List T:=[(i64 x.Issuer),(str x.ISIN),(i64 x.Cover),(i64 x.Limit)]
structure zaj where
 Issuer:Int
 ISIN:ByteArray
 Cover:Int
def zaj.enc (x:zaj):List T:=[(i64 x.Issuer),(str x.ISIN),(i64 x.Cover)]
structure zah where
 Need:Int
 Issuer:Int
 Asset:Int
 L:(List zaj)
def zah.enc (x:zah):List T:=[(i64 x.Need),(i64 x.Issuer),(i64 x.Asset),(.sl 3 ((x.L:List zaj).map zaj.enc))]
structure zhe where
 Issuer:Int
 ISIN:ByteArray
 Cover:Int
 Limit:Int
def zhe.enc (x:zhe):List T:=[(i64 x.Issuer),(str x.ISIN),(i64 x.Cover),(i64 x.Limit)]
def zeb_R (v:Bool):A:=(.t (boo v))
def zeb_O (v:Bool):List (Nat×O):=[]
def zeb_e (Q:Bool→Prop)(v:Bool):Prop:=Rt (zeb_R) (zeb_O) v (Q v)
def zeb_r (a0:Int)(a1:Int)(a2:Int)(v:Bool):Prop:=Con Tryz.prog 47 [(.t (i64 a0)),(.t (i64 a1)),(.t (i64 a2))] [] (fun r_ o_=>r_=zeb_R v∧o_=zeb_O v)
def zeb_w (a0:Int)(a1:Int)(a2:Int)(Q_:Bool→Prop):Prop:=Br (decide (a0≥a1)) (zeb_e Q_ (decide (a0≤a2))) (zeb_e Q_ false)
def zeb_h (a0:Int)(a1:Int)(a2:Int):HT Bool := .bo 1 3 (.fin [] [] (decide (a0≤a2))) (.fin [] [] false)
theorem zeb_of {a0 a1 a2 v} (h:zeb_w a0 a1 a2 (fun v_=>v_=v)):zeb_r a0 a1 a2 v:=Con_of1 Tryz.call47 Tryz.func47 [] (zeb_h a0 a1 a2) h
def zet_R (v:Bool):A:=(.t (boo v))
def zet_O (v:Bool):List (Nat×O):=[]
def zet_e (Q:Bool→Prop)(v:Bool):Prop:=Rt (zet_R) (zet_O) v (Q v)
def zet_r (a0:Int)(v:Bool):Prop:=Con Tryz.prog 48 [(.t (i64 a0))] [] (fun r_ o_=>r_=zet_R v∧o_=zet_O v)
def zet_w (a0:Int)(Q_:Bool→Prop):Prop:=Br (decide (a0≥1)) (zet_e Q_ (decide (a0≤1125899906842624))) (zet_e Q_ false)
def zet_h (a0:Int):HT Bool := .bo 1 2 (.fin [] [] (decide (a0≤1125899906842624))) (.fin [] [] false)
theorem zet_of {a0 v} (h:zet_w a0 (fun v_=>v_=v)):zet_r a0 v:=Con_of1 Tryz.call48 Tryz.func48 [] (zet_h a0) h
def zbg_s0 (a0:ByteArray)(s0_0:Int):St:=mkSt [(0,(.t (str a0))),(3,(.t (i64 s0_0)))] [] []
def zbg_q0_0 (a0:ByteArray)(y:Unit):St:=mkSt [(2,(.t (boo true)))] [] []
def zbg_x0_0 (a0:ByteArray)(Q:Unit→Prop)(y:Unit):Prop:=Lf .ret (zbg_q0_0 a0) y (Q y)
def zbg_q0_1 (a0:ByteArray)(y:Unit):St:=mkSt [] [] []
def zbg_x0_1 (a0:ByteArray)(Q:Unit→Prop)(y:Unit):Prop:=Lf (.exit 0) (zbg_q0_1 a0) y (Q y)
def zbg_L0 (a0:ByteArray)(Q0_:Unit→Prop)(Q1_:Unit→Prop)(s0_0:Int):Prop:=LW Tryz.prog 14 (loopAt Tryz.f49 0) (Outs.K (.cons .ret [.keep [2] []] (zbg_q0_0 a0) Q0_ (.one (.exit 0) [.keep [] []] (zbg_q0_1 a0) Q1_))) (zbg_s0 a0 s0_0)
def zbg_w0 (a0:ByteArray)(X_:Int→Prop)(Q0_:Unit→Prop)(Q1_:Unit→Prop)(s0_0:Int):Prop:=Br (decide (s0_0<32)) (Num .i64 (s0_0+3) (CutSlh (⟨#[69,85,82,32,85,83,68,32,71,66,80,32,67,72,70,32,74,80,89,32,83,69,75,32,78,79,75,32,68,75,75,32]⟩:ByteArray) s0_0 (s0_0+3) (Br (strEq ((⟨#[69,85,82,32,85,83,68,32,71,66,80,32,67,72,70,32,74,80,89,32,83,69,75,32,78,79,75,32,68,75,75,32]⟩:ByteArray).extract (s0_0:Int).toNat (((s0_0+3):Int).toNat)) a0) (zbg_x0_0 a0 Q0_ ()) (Num .i64 (s0_0+4) (X_ (s0_0+4)))))) (zbg_x0_1 a0 Q1_ ())
def zbg_h0 (a0:ByteArray)(s0_0:Int):HT (Unit ⊕ Unit) := .both 5 (.op 4 2 (.nw) (.op 4 3 (.cut (s0_0:Int).toNat ((s0_0+3):Int).toNat) (.both 13 (.ret [.keep [2] []] (.inl ())) (.op 3 1 (.nw) (.round [.keep [0,3] []]))))) (.ret [.keep [] []] (.inr ()))
theorem zbg_l0 {a0 Q0_ Q1_ s0_0} (h:zbg_w0 a0 (zbg_L0 a0 Q0_ Q1_) Q0_ Q1_ s0_0):zbg_L0 a0 Q0_ Q1_ s0_0:=LW_runT _ (zbg_h0 a0 s0_0) h (by kernel_rfl)
def zbg_R (v:Bool):A:=(.t (boo v))
def zbg_O (v:Bool):List (Nat×O):=[]
def zbg_e (Q:Bool→Prop)(v:Bool):Prop:=Rt (zbg_R) (zbg_O) v (Q v)
def zbg_r (a0:ByteArray)(v:Bool):Prop:=Con Tryz.prog 49 [(.t (str a0))] [] (fun r_ o_=>r_=zbg_R v∧o_=zbg_O v)
def zbg_w (a0:ByteArray)(Q_:Bool→Prop):Prop:=zbg_L0 a0 (fun (y1:Unit)=>zbg_e Q_ true) (fun (y1:Unit)=>zbg_e Q_ false) 0
def zbg_h (a0:ByteArray):HT Bool := .loop [.keep [0,3] []] (.out (Unit) .ret [.keep [2] []] (zbg_q0_0 a0) (fun y1 => .fin [] [] true) (.out (Unit) (.exit 0) [.keep [] []] (zbg_q0_1 a0) (fun y1 => .fin [] [] false) (.nil)))
theorem zbg_of {a0 v} (h:zbg_w a0 (fun v_=>v_=v)):zbg_r a0 v:=Con_of1 Tryz.call49 Tryz.func49 [] (zbg_h a0) h
def zao_s1 (a0:zav)(s1_0:Int):St:=mkSt [(1,(.at 1 0)),(4,(.t (i64 s1_0)))] [(1,(.box [(.t (i64 a0.ID)),(.t (i64 a0.Version)),(.t (str a0.Currency)),(.t (i64 a0.Rating)),(.t (i64 a0.Least)),(.t (i64 a0.Most)),(.t (.sl 3 ((a0.Cuts:List zbp).map zbp.enc))),(.t (i64 a0.Issuer)),(.t (i64 a0.Asset)),(.t (.sl 1 ((a0.Barred:List Int).map eN)))]))] []
def zao_q1_0 (a0:zav)(y:Unit):St:=mkSt [(2,(.t (i64 1)))] [] []
def zao_x1_0 (a0:zav)(Q:Unit→Prop)(y:Unit):Prop:=Lf .ret (zao_q1_0 a0) y (Q y)
def zao_q1_1 (a0:zav)(y:Unit):St:=mkSt [] [] []
def zao_x1_1 (a0:zav)(Q:Unit→Prop)(y:Unit):Prop:=Lf (.exit 2) (zao_q1_1 a0) y (Q y)
def zao_L1 (a0:zav)(Q0_:Unit→Prop)(Q1_:Unit→Prop)(s1_0:Int):Prop:=LW Tryz.prog 128 (loopAt Tryz.f22 1) (Outs.K (.cons .ret [.keep [2] []] (zao_q1_0 a0) Q0_ (.one (.exit 2) [.keep [] []] (zao_q1_1 a0) Q1_))) (zao_s1 a0 s1_0)
def zao_w1 (a0:zav)(X_:Int→Prop)(Q0_:Unit→Prop)(Q1_:Unit→Prop)(s1_0:Int):Prop:=Br (decide (s1_0<(lenM eN a0.Barred))) (∃ xb1:Int,Got eN a0.Barred s1_0 xb1 (∃ rb2:Bool,(zeb_r xb1 0 9999 rb2)∧(Br (!rb2) (zao_x1_0 a0 Q0_ ()) (Br (decide (s1_0>0)) (Got eN a0.Barred s1_0 xb1 (Num .i64 (s1_0-1) (∃ xb3:Int,Got eN a0.Barred (s1_0-1) xb3 (Br (decide (xb1≤xb3)) (zao_x1_0 a0 Q0_ ()) (Num .i64 (s1_0+1) (X_ (s1_0+1))))))) (Num .i64 (s1_0+1) (X_ (s1_0+1))))))) (zao_x1_1 a0 Q1_ ())
def zao_h1 (a0:zav)(s1_0:Int):HT (Unit ⊕ Unit) := .both 100 (.ex (Int) fun xb1 => .op 15 3 (.row (s1_0:Int).toNat (eN xb1)) (.ex (Bool) fun rb2 => .op 15 5 (.call [] (.t (boo rb2)) []) (.bo 15 7 (.ret [.keep [2] []] (.inl ())) (.bo 15 10 (.op 15 14 (.row (s1_0:Int).toNat (eN xb1)) (.op 15 19 (.nw) (.ex (Int) fun xb3 => .op 15 20 (.row ((s1_0-1):Int).toNat (eN xb3)) (.both 127 (.ret [.keep [2] []] (.inl ())) (.op 14 1 (.nw) (.round [.keep [1,4] [1]])))))) (.op 14 1 (.nw) (.round [.keep [1,4] [1]])))))) (.ret [.keep [] []] (.inr ()))
theorem zao_l1 {a0 Q0_ Q1_ s1_0} (h:zao_w1 a0 (zao_L1 a0 Q0_ Q1_) Q0_ Q1_ s1_0):zao_L1 a0 Q0_ Q1_ s1_0:=LW_runT _ (zao_h1 a0 s1_0) h (by kernel_rfl)
def zao_s0 (a0:zav)(s0_0:Int):St:=mkSt [(1,(.at 1 0)),(3,(.t (i64 s0_0)))] [(1,(.box [(.t (i64 a0.ID)),(.t (i64 a0.Version)),(.t (str a0.Currency)),(.t (i64 a0.Rating)),(.t (i64 a0.Least)),(.t (i64 a0.Most)),(.t (.sl 3 ((a0.Cuts:List zbp).map zbp.enc))),(.t (i64 a0.Issuer)),(.t (i64 a0.Asset)),(.t (.sl 1 ((a0.Barred:List Int).map eN)))]))] []
def zao_q0_0 (a0:zav)(y:Unit):St:=mkSt [(2,(.t (i64 1)))] [] []
def zao_x0_0 (a0:zav)(Q:Unit→Prop)(y:Unit):Prop:=Lf .ret (zao_q0_0 a0) y (Q y)
def zao_q0_1 (a0:zav)(y:Unit):St:=mkSt [(1,(.at 1 0))] [(1,(.box [(.t (i64 a0.ID)),(.t (i64 a0.Version)),(.t (str a0.Currency)),(.t (i64 a0.Rating)),(.t (i64 a0.Least)),(.t (i64 a0.Most)),(.t (.sl 3 ((a0.Cuts:List zbp).map zbp.enc))),(.t (i64 a0.Issuer)),(.t (i64 a0.Asset)),(.t (.sl 1 ((a0.Barred:List Int).map eN)))]))] []
def zao_x0_1 (a0:zav)(Q:Unit→Prop)(y:Unit):Prop:=Lf (.exit 0) (zao_q0_1 a0) y (Q y)
def zao_L0 (a0:zav)(Q0_:Unit→Prop)(Q1_:Unit→Prop)(s0_0:Int):Prop:=LW Tryz.prog 128 (loopAt Tryz.f22 0) (Outs.K (.cons .ret [.keep [2] []] (zao_q0_0 a0) Q0_ (.one (.exit 0) [.keep [1] [1]] (zao_q0_1 a0) Q1_))) (zao_s0 a0 s0_0)
def zao_w0 (a0:zav)(X_:Int→Prop)(Q0_:Unit→Prop)(Q1_:Unit→Prop)(s0_0:Int):Prop:=Br (decide (s0_0<(lenM zbp.enc a0.Cuts))) (∃ xa1:zbp,Got zbp.enc a0.Cuts s0_0 xa1 (∃ ra2:Bool,(zeb_r xa1.Days 0 200000 ra2)∧(Br (!ra2) (zao_x0_0 a0 Q0_ ()) (Got zbp.enc a0.Cuts s0_0 xa1 (∃ ra3:Bool,(zeb_r xa1.Rating 0 20 ra3)∧(Br (!ra3) (zao_x0_0 a0 Q0_ ()) (Got zbp.enc a0.Cuts s0_0 xa1 (∃ ra4:Bool,(zeb_r xa1.Cut 0 999999 ra4)∧(Br (!ra4) (zao_x0_0 a0 Q0_ ()) (Num .i64 (s0_0+1) (X_ (s0_0+1)))))))))))) (zao_x0_1 a0 Q1_ ())
def zao_h0 (a0:zav)(s0_0:Int):HT (Unit ⊕ Unit) := .both 65 (.ex (zbp) fun xa1 => .op 10 3 (.row (s0_0:Int).toNat (zbp.enc xa1)) (.ex (Bool) fun ra2 => .op 10 6 (.call [] (.t (boo ra2)) []) (.bo 10 8 (.ret [.keep [2] []] (.inl ())) (.op 10 12 (.row (s0_0:Int).toNat (zbp.enc xa1)) (.ex (Bool) fun ra3 => .op 10 15 (.call [] (.t (boo ra3)) []) (.bo 10 18 (.ret [.keep [2] []] (.inl ())) (.op 10 22 (.row (s0_0:Int).toNat (zbp.enc xa1)) (.ex (Bool) fun ra4 => .op 10 25 (.call [] (.t (boo ra4)) []) (.both 95 (.ret [.keep [2] []] (.inl ())) (.op 9 1 (.nw) (.round [.keep [1,3] [1]]))))))))))) (.ret [.keep [1] [1]] (.inr ()))
theorem zao_l0 {a0 Q0_ Q1_ s0_0} (h:zao_w0 a0 (zao_L0 a0 Q0_ Q1_) Q0_ Q1_ s0_0):zao_L0 a0 Q0_ Q1_ s0_0:=LW_runT _ (zao_h0 a0 s0_0) h (by kernel_rfl)
def zao_R (v:Int):A:=(.t (i64 v))
def zao_O (v:Int):List (Nat×O):=[]
def zao_e (Q:Int→Prop)(v:Int):Prop:=Rt (zao_R) (zao_O) v (Q v)
def zao_r (a0:zav)(v:Int):Prop:=Con Tryz.prog 22 [(.agg [(.t (i64 a0.ID)),(.t (i64 a0.Version)),(.t (str a0.Currency)),(.t (i64 a0.Rating)),(.t (i64 a0.Least)),(.t (i64 a0.Most)),(.t (.sl 3 ((a0.Cuts:List zbp).map zbp.enc))),(.t (i64 a0.Issuer)),(.t (i64 a0.Asset)),(.t (.sl 1 ((a0.Barred:List Int).map eN)))])] [] (fun r_ o_=>r_=zao_R v∧o_=zao_O v)
def zao_w (a0:zav)(Q_:Int→Prop):Prop:=∃ r1:Bool,(zeb_r a0.ID 1 64 r1)∧(Br (!r1) (zao_e Q_ 1) (∃ r2:Bool,(zet_r a0.Version r2)∧(Br (!r2) (zao_e Q_ 1) (∃ r3:Bool,(zeb_r a0.Rating 0 20 r3)∧(Br (!r3) (zao_e Q_ 1) (∃ r4:Bool,(zeb_r a0.Issuer 0 1000000 r4)∧(Br (!r4) (zao_e Q_ 1) (∃ r5:Bool,(zeb_r a0.Asset 0 1000000 r5)∧(Br (!r5) (zao_e Q_ 1) (∃ r6:Bool,(zeb_r (lenM zbp.enc a0.Cuts) 1 64 r6)∧(Br (!r6) (zao_e Q_ 1) (Br (decide ((lenM eN a0.Barred)>64)) (zao_e Q_ 1) (Br (decide (a0.Least<0)) (zao_e Q_ 10) (∃ r7:Bool,(zeb_r a0.Most a0.Least 200000 r7)∧(Br (!r7) (zao_e Q_ 10) (∃ r8:Bool,(zbg_r a0.Currency r8)∧(Br (!r8) (zao_e Q_ 11) (zao_L0 a0 (fun (y9:Unit)=>zao_e Q_ 1) (fun (y9:Unit)=>zao_L1 a0 (fun (y10:Unit)=>zao_e Q_ 1) (fun (y10:Unit)=>zao_e Q_ 0) 0) 0))))))))))))))))))
def zao_h (a0:zav):HT Int := .ex (Bool) fun r1 => .op 1 2 (.call [] (.t (boo r1)) []) (.bo 1 4 (.fin [] [] 1) (.ex (Bool) fun r2 => .op 1 7 (.call [] (.t (boo r2)) []) (.bo 1 10 (.fin [] [] 1) (.ex (Bool) fun r3 => .op 1 13 (.call [] (.t (boo r3)) []) (.bo 1 16 (.fin [] [] 1) (.ex (Bool) fun r4 => .op 1 19 (.call [] (.t (boo r4)) []) (.bo 1 22 (.fin [] [] 1) (.ex (Bool) fun r5 => .op 1 25 (.call [] (.t (boo r5)) []) (.bo 1 28 (.fin [] [] 1) (.ex (Bool) fun r6 => .op 1 32 (.call [] (.t (boo r6)) []) (.bo 1 35 (.fin [] [] 1) (.both 45 (.fin [] [] 1) (.bo 3 3 (.fin [] [] 10) (.ex (Bool) fun r7 => .op 3 8 (.call [] (.t (boo r7)) []) (.both 56 (.fin [] [] 10) (.ex (Bool) fun r8 => .op 5 2 (.call [] (.t (boo r8)) []) (.both 60 (.fin [] [] 11) (.loop [.keep [1,3] [1]] (.out (Unit) .ret [.keep [2] []] (zao_q0_0 a0) (fun y9 => .fin [] [] 1) (.out (Unit) (.exit 0) [.keep [1] [1]] (zao_q0_1 a0) (fun y9 => .loop [.keep [1,4] [1]] (.out (Unit) .ret [.keep [2] []] (zao_q1_0 a0) (fun y10 => .fin [] [] 1) (.out (Unit) (.exit 2) [.keep [] []] (zao_q1_1 a0) (fun y10 => .fin [] [] 0) (.nil)))) (.nil)))))))))))))))))))))
theorem zao_of {a0 v} (h:zao_w a0 (fun v_=>v_=v)):zao_r a0 v:=Con_of1 Tryz.call22 Tryz.func22 [] (zao_h a0) h
def zff_R (v:Bool):A:=(.t (boo v))
def zff_O (v:Bool):List (Nat×O):=[]
def zff_e (Q:Bool→Prop)(v:Bool):Prop:=Rt (zff_R) (zff_O) v (Q v)
def zff_r (a0:zbn)(a1:(List zab))(v:Bool):Prop:=Con Tryz.prog 6 [(.agg [(.t (i64 a0.Basket.ID)),(.t (i64 a0.Basket.Version)),(.t (str a0.Basket.Currency)),(.t (i64 a0.Basket.Rating)),(.t (i64 a0.Basket.Least)),(.t (i64 a0.Basket.Most)),(.t (.sl 3 ((a0.Basket.Cuts:List zbp).map zbp.enc))),(.t (i64 a0.Basket.Issuer)),(.t (i64 a0.Basket.Asset)),(.t (.sl 1 ((a0.Basket.Barred:List Int).map eN))),(.t (i64 a0.Need)),(.t (.sl 2 ((a0.Have:List zab).map zab.enc))),(.t (i64 a0.Day))]),(.t (.sl 2 ((a1:List zab).map zab.enc)))] [] (fun r_ o_=>r_=zff_R v∧o_=zff_O v)
def zff_w (a0:zbn)(a1:(List zab))(Q_:Bool→Prop):Prop:=∃ r1:Int,(zao_r a0.Basket r1)∧(Br (r1==0) (Br (decide ((lenM zab.enc a0.Have)≤80)) (zff_e Q_ (decide ((lenM zab.enc a1)≤80))) (zff_e Q_ false)) (zff_e Q_ false))
def zff_h (a0:zbn)(a1:(List zab)):HT Bool := .ex (Int) fun r1 => .op 1 2 (.call [] (.t (i64 r1)) []) (.bo 1 4 (.bo 1 10 (.fin [] [] (decide ((lenM zab.enc a1)≤80))) (.fin [] [] false)) (.fin [] [] false))
theorem zff_of {a0 a1 v} (h:zff_w a0 a1 (fun v_=>v_=v)):zff_r a0 a1 v:=Con_of1 Tryz.call6 Tryz.func6 [] (zff_h a0 a1) h
def zde_s0 (a0:(List zab))(s0_0:Int):St:=mkSt [(0,(.t (.sl 2 ((a0:List zab).map zab.enc)))),(9,(.t (.sl 2 ((a0:List zab).map zab.enc)))),(10,(.t (i64 (lenM zab.enc a0)))),(11,(.t (i64 s0_0)))] [] []
def zde_q0_0 (a0:(List zab))(y:Int×Int):St:=mkSt [(2,(.t (i64 y.1))),(3,(.t (i64 y.2)))] [] []
def zde_x0_0 (a0:(List zab))(Q:(Int×Int)→Prop)(y:Int×Int):Prop:=Lf .ret (zde_q0_0 a0) y (Q y)
def zde_q0_1 (a0:(List zab))(y:Unit):St:=mkSt [(0,(.t (.sl 2 ((a0:List zab).map zab.enc))))] [] []
def zde_x0_1 (a0:(List zab))(Q:Unit→Prop)(y:Unit):Prop:=Lf (.exit 0) (zde_q0_1 a0) y (Q y)
def zde_L0 (a0:(List zab))(Q0_:(Int×Int)→Prop)(Q1_:Unit→Prop)(s0_0:Int):Prop:=LW Tryz.prog 44 (loopAt Tryz.f29 0) (Outs.K (.cons .ret [.keep [2,3] []] (zde_q0_0 a0) Q0_ (.one (.exit 0) [.keep [0] []] (zde_q0_1 a0) Q1_))) (zde_s0 a0 s0_0)
def zde_w0 (a0:(List zab))(X_:Int→Prop)(Q0_:(Int×Int)→Prop)(Q1_:Unit→Prop)(s0_0:Int):Prop:=Br (decide (s0_0<(lenM zab.enc a0))) (∃ xa1:zab,Got zab.enc a0 s0_0 xa1 (Br (decide (xa1.Qty<1)) (zde_x0_0 a0 Q0_ (s0_0,1)) (Br (decide (xa1.Qty>1125899906842624)) (zde_x0_0 a0 Q0_ (s0_0,1)) (Br (decide (s0_0>0)) (Num .i64 (s0_0-1) (∃ xa2:zab,Got zab.enc a0 (s0_0-1) xa2 (Br (strLe xa1.ISIN xa2.ISIN) (zde_x0_0 a0 Q0_ (s0_0,7)) (Num .i64 (s0_0+1) (X_ (s0_0+1)))))) (Num .i64 (s0_0+1) (X_ (s0_0+1))))))) (zde_x0_1 a0 Q1_ ())
def zde_h0 (a0:(List zab))(s0_0:Int):HT ((Int×Int) ⊕ Unit) := .both 12 (.ex (zab) fun xa1 => .op 5 1 (.row (s0_0:Int).toNat (zab.enc xa1)) (.bo 6 3 (.ret [.keep [2,3] []] (.inl (s0_0,1))) (.both 16 (.ret [.keep [2,3] []] (.inl (s0_0,1))) (.bo 8 2 (.op 8 7 (.nw) (.ex (zab) fun xa2 => .op 8 8 (.row ((s0_0-1):Int).toNat (zab.enc xa2)) (.both 26 (.ret [.keep [2,3] []] (.inl (s0_0,7))) (.op 10 0 (.nw) (.round [.keep [0,9,10,11] []]))))) (.op 10 0 (.nw) (.round [.keep [0,9,10,11] []])))))) (.ret [.keep [0] []] (.inr ()))
theorem zde_l0 {a0 Q0_ Q1_ s0_0} (h:zde_w0 a0 (zde_L0 a0 Q0_ Q1_) Q0_ Q1_ s0_0):zde_L0 a0 Q0_ Q1_ s0_0:=LW_runT _ (zde_h0 a0 s0_0) h (by kernel_rfl)
def zde_R (v:Int×Int):A:=(.tup [(.t (i64 v.1)),(.t (i64 v.2))])
def zde_O (v:Int×Int):List (Nat×O):=[]
def zde_e (Q:(Int×Int)→Prop)(v:Int×Int):Prop:=Rt (zde_R) (zde_O) v (Q v)
def zde_r (a0:(List zab))(v:Int×Int):Prop:=Con Tryz.prog 29 [(.t (.sl 2 ((a0:List zab).map zab.enc)))] [] (fun r_ o_=>r_=zde_R v∧o_=zde_O v)
def zde_w (a0:(List zab))(Q_:(Int×Int)→Prop):Prop:=Br (decide ((lenM zab.enc a0)>64)) (zde_e Q_ (0,2)) (zde_L0 a0 (fun (y1:Int×Int)=>zde_e Q_ (y1.1,y1.2)) (fun (y1:Unit)=>zde_e Q_ ((lenM zab.enc a0),0)) 0)
def zde_h (a0:(List zab)):HT (Int×Int) := .both 8 (.fin [] [] (0,2)) (.loop [.keep [0,9,10,11] []] (.out (Int×Int) .ret [.keep [2,3] []] (zde_q0_0 a0) (fun y1 => .fin [] [] (y1.1,y1.2)) (.out (Unit) (.exit 0) [.keep [0] []] (zde_q0_1 a0) (fun y1 => .fin [] [] ((lenM zab.enc a0),0)) (.nil))))
theorem zde_of {a0 v} (h:zde_w a0 (fun v_=>v_=v)):zde_r a0 v:=Con_of1 Tryz.call29 Tryz.func29 [] (zde_h a0) h
def zhc_R (v:Int):A:=(.t (i64 v))
def zhc_O (v:Int):List (Nat×O):=[]
def zhc_e (Q:Int→Prop)(v:Int):Prop:=Rt (zhc_R) (zhc_O) v (Q v)
def zhc_r (a0:(List zab))(a1:ByteArray)(v:Int):Prop:=Con Tryz.prog 146 [(.t (.sl 2 ((a0:List zab).map zab.enc))),(.t (str a1))] [] (fun r_ o_=>r_=zhc_R v∧o_=zhc_O v)
def zhc_w (a0:(List zab))(a1:ByteArray)(Q_:Int→Prop):Prop:=∃ r1:Int×Bool,(zgv_r a0 a1 r1)∧(Br (!r1.2) (zhc_e Q_ 0) (∃ x2:zab,Got zab.enc a0 r1.1 x2 (zhc_e Q_ x2.Qty)))
def zhc_h (a0:(List zab))(a1:ByteArray):HT Int := .ex (Int×Bool) fun r1 => .op 1 2 (.call [] (.tup [(.t (i64 r1.1)),(.t (boo r1.2))]) []) (.both 14 (.fin [] [] 0) (.ex (zab) fun x2 => .op 4 2 (.row (r1.1:Int).toNat (zab.enc x2)) (.fin [] [] x2.Qty)))
theorem zhc_of {a0 a1 v} (h:zhc_w a0 a1 (fun v_=>v_=v)):zhc_r a0 a1 v:=Con_of1 Tryz.call146 Tryz.func146 [] (zhc_h a0 a1) h
def zfb_s0 (a1:(List zab))(a0:(List zab))(s0_0:Int)(s0_1:(List zab)):St:=mkSt [(1,(.t (.sl 2 ((a1:List zab).map zab.enc)))),(5,(.ref 30)),(9,(.t (.sl 2 ((a0:List zab).map zab.enc)))),(10,(.t (i64 (lenM zab.enc a0)))),(11,(.t (i64 s0_0)))] [(30,(.row 2 ((s0_1:List zab).map zab.enc)))] []
def zfb_q0_0 (a1:(List zab))(a0:(List zab))(y:(List zab)):St:=mkSt [(5,(.ref 30))] [(30,(.row 2 ((y:List zab).map zab.enc)))] []
def zfb_x0_0 (a1:(List zab))(a0:(List zab))(Q:(List zab)→Prop)(y:(List zab)):Prop:=Lf (.exit 0) (zfb_q0_0 a1 a0) y (Q y)
def zfb_L0 (a1:(List zab))(a0:(List zab))(Q0_:(List zab)→Prop)(s0_0:Int)(s0_1:(List zab)):Prop:=LW Tryz.prog 33 (loopAt Tryz.f90 0) (Outs.K (.one (.exit 0) [.keep [5] [30]] (zfb_q0_0 a1 a0) Q0_)) (zfb_s0 a1 a0 s0_0 s0_1)
def zfb_w0 (a1:(List zab))(a0:(List zab))(X_:Int→(List zab)→Prop)(Q0_:(List zab)→Prop)(s0_0:Int)(s0_1:(List zab)):Prop:=Br (decide (s0_0<(lenM zab.enc a0))) (∃ xa1:zab,Got zab.enc a0 s0_0 xa1 (∃ ra2:Int,(zhc_r a1 xa1.ISIN ra2)∧(Br (decide ((min xa1.Qty ra2)>0)) (App2 24 zab.enc s0_1 [(⟨xa1.ISIN,(min xa1.Qty ra2)⟩:zab)] (Num .i64 (s0_0+1) (X_ (s0_0+1) (s0_1++[(⟨xa1.ISIN,(min xa1.Qty ra2)⟩:zab)])))) (Num .i64 (s0_0+1) (X_ (s0_0+1) s0_1))))) (zfb_x0_0 a1 a0 Q0_ s0_1)
def zfb_h0 (a1:(List zab))(a0:(List zab))(s0_0:Int)(s0_1:(List zab)):HT (List zab) := .both 12 (.ex (zab) fun xa1 => .op 4 0 (.row (s0_0:Int).toNat (zab.enc xa1)) (.ex (Int) fun ra2 => .op 5 5 (.call [] (.t (i64 ra2)) []) (.both 23 (.op 7 6 (.no) (.rw 30 (((s0_1++[(⟨xa1.ISIN,(min xa1.Qty ra2)⟩:zab)]):List zab).map zab.enc) (.op 8 0 (.nw) (.round [.keep [1,5,9,10,11] [30]])))) (.op 8 0 (.nw) (.round [.keep [1,5,9,10,11] [30]]))))) (.ret [.keep [5] [30]] s0_1)
theorem zfb_l0 {a1 a0 Q0_ s0_0 s0_1} (h:zfb_w0 a1 a0 (zfb_L0 a1 a0 Q0_) Q0_ s0_0 s0_1):zfb_L0 a1 a0 Q0_ s0_0 s0_1:=LW_runT _ (zfb_h0 a1 a0 s0_0 s0_1) h (by kernel_rfl)
def zfb_R (v:(List zab)):A:=(.t (.sl 2 ((v:List zab).map zab.enc)))
def zfb_O (v:(List zab)):List (Nat×O):=[]
def zfb_e (Q:(List zab)→Prop)(v:(List zab)):Prop:=Rt (zfb_R) (zfb_O) v (Q v)
def zfb_r (a0:(List zab))(a1:(List zab))(v:(List zab)):Prop:=Con Tryz.prog 90 [(.t (.sl 2 ((a0:List zab).map zab.enc))),(.t (.sl 2 ((a1:List zab).map zab.enc)))] [] (fun r_ o_=>r_=zfb_R v∧o_=zfb_O v)
def zfb_w (a0:(List zab))(a1:(List zab))(Q_:(List zab)→Prop):Prop:=zfb_L0 a1 a0 (fun (y1:(List zab))=>zfb_e Q_ y1) 0 []
def zfb_h (a0:(List zab))(a1:(List zab)):HT (List zab) := .loop [.own 5 30 2, .keep [1,5,9,10,11] [30]] (.out ((List zab)) (.exit 0) [.keep [5] [30]] (zfb_q0_0 a1 a0) (fun y1 => .fin [] [] y1) (.nil))
theorem zfb_of {a0 a1 v} (h:zfb_w a0 a1 (fun v_=>v_=v)):zfb_r a0 a1 v:=Con_of1 Tryz.call90 Tryz.func90 [] (zfb_h a0 a1) h
def zdj_s0 (a1:(List zab))(s0_0:Int)(s0_1:(List zab)):St:=mkSt [(6,(.ref 1600)),(13,(.t (.sl 2 ((a1:List zab).map zab.enc)))),(14,(.t (i64 (lenM zab.enc a1)))),(15,(.t (i64 s0_0)))] [(1600,(.row 2 ((s0_1:List zab).map zab.enc)))] []
def zdj_q0_0 (a1:(List zab))(y:Unit):St:=mkSt [(4,(.t (.v (.slice none 0 0)))),(5,(.t (i64 20)))] [] []
def zdj_x0_0 (a1:(List zab))(Q:Unit→Prop)(y:Unit):Prop:=Lf .ret (zdj_q0_0 a1) y (Q y)
def zdj_q0_1 (a1:(List zab))(y:(List zab)):St:=mkSt [(6,(.ref 1600))] [(1600,(.row 2 ((y:List zab).map zab.enc)))] []
def zdj_x0_1 (a1:(List zab))(Q:(List zab)→Prop)(y:(List zab)):Prop:=Lf (.exit 0) (zdj_q0_1 a1) y (Q y)
def zdj_L0 (a1:(List zab))(Q0_:Unit→Prop)(Q1_:(List zab)→Prop)(s0_0:Int)(s0_1:(List zab)):Prop:=LW Tryz.prog 61 (loopAt Tryz.f34 0) (Outs.K (.cons .ret [.keep [4,5] []] (zdj_q0_0 a1) Q0_ (.one (.exit 0) [.keep [6] [1600]] (zdj_q0_1 a1) Q1_))) (zdj_s0 a1 s0_0 s0_1)
def zdj_w0 (a1:(List zab))(X_:Int→(List zab)→Prop)(Q0_:Unit→Prop)(Q1_:(List zab)→Prop)(s0_0:Int)(s0_1:(List zab)):Prop:=Br (decide (s0_0<(lenM zab.enc a1))) (∃ xa1:zab,Got zab.enc a1 s0_0 xa1 (∃ ra2:Int×Bool,(zgv_r s0_1 xa1.ISIN ra2)∧(Br (!ra2.2) (zdj_x0_0 a1 Q0_ ()) (InL zab.enc s0_1 ra2.1 (∃ xa3:zab,EltG zab.enc s0_1 ra2.1 xa3 (Br (decide (xa3.Qty<xa1.Qty)) (zdj_x0_0 a1 Q0_ ()) (InL zab.enc s0_1 ra2.1 (EltG zab.enc s0_1 ra2.1 xa3 (Num .i64 (xa3.Qty-xa1.Qty) (InL zab.enc s0_1 ra2.1 (EltS zab.enc s0_1 ra2.1 xa3 (⟨xa3.ISIN,(xa3.Qty-xa1.Qty)⟩:zab) (InL zab.enc (s0_1.set (ra2.1:Int).toNat (⟨xa3.ISIN,(xa3.Qty-xa1.Qty)⟩:zab)) ra2.1 (∃ xa4:zab,EltG zab.enc (s0_1.set (ra2.1:Int).toNat (⟨xa3.ISIN,(xa3.Qty-xa1.Qty)⟩:zab)) ra2.1 xa4 (Br (xa4.Qty==0) (Num .i64 (ra2.1+1) (∃ ra5:(List zab),(DelR Tryz.prog 72 2 zab.enc (s0_1.set (ra2.1:Int).toNat (⟨xa3.ISIN,(xa3.Qty-xa1.Qty)⟩:zab)) ra2.1 (ra2.1+1) ra5)∧(Num .i64 (s0_0+1) (X_ (s0_0+1) ra5)))) (Num .i64 (s0_0+1) (X_ (s0_0+1) (s0_1.set (ra2.1:Int).toNat (⟨xa3.ISIN,(xa3.Qty-xa1.Qty)⟩:zab)))))))))))))))))) (zdj_x0_1 a1 Q1_ s0_1)
def zdj_h0 (a1:(List zab))(s0_0:Int)(s0_1:(List zab)):HT (Unit ⊕ (List zab)) := .both 16 (.ex (zab) fun xa1 => .op 4 0 (.row (s0_0:Int).toNat (zab.enc xa1)) (.ex (Int×Bool) fun ra2 => .op 5 3 (.ro (.tup [(.t (i64 ra2.1)),(.t (boo ra2.2))])) (.bo 6 2 (.ret [.keep [4,5] []] (.inl ())) (.op 6 5 (.ix (ra2.1:Int).toNat) (.ex (zab) fun xa3 => .op 6 7 (.row (ra2.1:Int).toNat (zab.enc xa3)) (.both 37 (.ret [.keep [4,5] []] (.inl ())) (.op 8 2 (.ix (ra2.1:Int).toNat) (.op 8 4 (.row (ra2.1:Int).toNat (zab.enc xa3)) (.op 8 7 (.nw) (.op 8 8 (.ix (ra2.1:Int).toNat) (.op 8 10 (.row (ra2.1:Int).toNat (zab.enc xa3)) (.rw 1600 (((s0_1.set (ra2.1:Int).toNat (⟨xa3.ISIN,(xa3.Qty-xa1.Qty)⟩:zab)):List zab).map zab.enc) (.op 9 2 (.ix (ra2.1:Int).toNat) (.ex (zab) fun xa4 => .op 9 4 (.row (ra2.1:Int).toNat (zab.enc xa4)) (.both 53 (.reg 10 [.ren 1600 620] [] (.op 10 3 (.nw) (.ex ((List zab)) fun ra5 => .op 10 4 (.call [620] (.ref 1600) [(1600,(.row 2 ((ra5:List zab).map zab.enc)))]) (.op 11 0 (.nw) (.round [.keep [6,13,14,15] [1600]]))))) (.op 11 0 (.nw) (.round [.keep [6,13,14,15] [1600]]))))))))))))))))) (.ret [.keep [6] [1600]] (.inr s0_1))
theorem zdj_l0 {a1 Q0_ Q1_ s0_0 s0_1} (h:zdj_w0 a1 (zdj_L0 a1 Q0_ Q1_) Q0_ Q1_ s0_0 s0_1):zdj_L0 a1 Q0_ Q1_ s0_0 s0_1:=LW_runT _ (zdj_h0 a1 s0_0 s0_1) h (by kernel_rfl)
def zdj_R (v:(List zab)×Int):A:=(.tup [(.t (.sl 2 ((v.1:List zab).map zab.enc))),(.t (i64 v.2))])
def zdj_O (v:(List zab)×Int):List (Nat×O):=[]
def zdj_e (Q:((List zab)×Int)→Prop)(v:(List zab)×Int):Prop:=Rt (zdj_R) (zdj_O) v (Q v)
def zdj_r (a0:(List zab))(a1:(List zab))(v:(List zab)×Int):Prop:=Con Tryz.prog 34 [(.t (.sl 2 ((a0:List zab).map zab.enc))),(.t (.sl 2 ((a1:List zab).map zab.enc)))] [] (fun r_ o_=>r_=zdj_R v∧o_=zdj_O v)
def zdj_w (a0:(List zab))(a1:(List zab))(Q_:((List zab)×Int)→Prop):Prop:=∃ r1:(List zab),(CloneR Tryz.prog 70 2 zab.enc a0 r1)∧(zdj_L0 a1 (fun (y2:Unit)=>zdj_e Q_ ([],20)) (fun (y2:(List zab))=>zdj_e Q_ (y2,0)) 0 r1)
def zdj_h (a0:(List zab))(a1:(List zab)):HT ((List zab)×Int) := .ex ((List zab)) fun r1 => .op 1 1 (.call [] (.ref 1600) [(1600,(.row 2 ((r1:List zab).map zab.enc)))]) (.loop [.keep [6,13,14,15] [1600]] (.out (Unit) .ret [.keep [4,5] []] (zdj_q0_0 a1) (fun y2 => .fin [] [([0],2)] ([],20)) (.out ((List zab)) (.exit 0) [.keep [6] [1600]] (zdj_q0_1 a1) (fun y2 => .fin [] [] (y2,0)) (.nil))))
theorem zdj_of {a0 a1 v} (h:zdj_w a0 a1 (fun v_=>v_=v)):zdj_r a0 a1 v:=Con_of1 Tryz.call34 Tryz.func34 [] (zdj_h a0 a1) h
def zgk_R (v:zgd):A:=(.agg [(.t (.sl 2 ((v.To:List zab).map zab.enc))),(.t (.sl 2 ((v.Back:List zab).map zab.enc)))])
def zgk_O (v:zgd):List (Nat×O):=[]
def zgk_e (Q:zgd→Prop)(v:zgd):Prop:=Rt (zgk_R) (zgk_O) v (Q v)
def zgk_r (a0:(List zab))(a1:(List zab))(v:zgd):Prop:=Con Tryz.prog 50 [(.t (.sl 2 ((a0:List zab).map zab.enc))),(.t (.sl 2 ((a1:List zab).map zab.enc)))] [] (fun r_ o_=>r_=zgk_R v∧o_=zgk_O v)
def zgk_w (a0:(List zab))(a1:(List zab))(Q_:zgd→Prop):Prop:=∃ r1:(List zab),(zfb_r a0 a1 r1)∧(∃ r2:(List zab)×Int,(zdj_r a1 r1 r2)∧(∃ r3:(List zab)×Int,(zdj_r a0 r1 r3)∧(zgk_e Q_ (⟨r2.1,r3.1⟩:zgd))))
def zgk_h (a0:(List zab))(a1:(List zab)):HT zgd := .ex ((List zab)) fun r1 => .op 1 2 (.call [] (.t (.sl 2 ((r1:List zab).map zab.enc))) []) (.ex ((List zab)×Int) fun r2 => .op 2 2 (.call [] (.tup [(.t (.sl 2 ((r2.1:List zab).map zab.enc))),(.t (i64 r2.2))]) []) (.ex ((List zab)×Int) fun r3 => .op 3 2 (.call [] (.tup [(.t (.sl 2 ((r3.1:List zab).map zab.enc))),(.t (i64 r3.2))]) []) (.fin [] [] (⟨r2.1,r3.1⟩:zgd))))
theorem zgk_of {a0 a1 v} (h:zgk_w a0 a1 (fun v_=>v_=v)):zgk_r a0 a1 v:=Con_of1 Tryz.call50 Tryz.func50 [] (zgk_h a0 a1) h
def zgc_R (v:zgd×Int):A:=(.tup [(.agg [(.t (.sl 2 ((v.1.To:List zab).map zab.enc))),(.t (.sl 2 ((v.1.Back:List zab).map zab.enc)))]),(.t (i64 v.2))])
def zgc_O (v:zgd×Int):List (Nat×O):=[]
def zgc_e (Q:(zgd×Int)→Prop)(v:zgd×Int):Prop:=Rt (zgc_R) (zgc_O) v (Q v)
def zgc_r (a0:(List zab))(a1:(List zab))(v:zgd×Int):Prop:=Con Tryz.prog 23 [(.t (.sl 2 ((a0:List zab).map zab.enc))),(.t (.sl 2 ((a1:List zab).map zab.enc)))] [] (fun r_ o_=>r_=zgc_R v∧o_=zgc_O v)
def zgc_w (a0:(List zab))(a1:(List zab))(Q_:(zgd×Int)→Prop):Prop:=∃ r1:Int×Int,(zde_r a0 r1)∧(Br (r1.2 != 0) (zgc_e Q_ ((⟨[],[]⟩:zgd),r1.2)) (∃ r2:Int×Int,(zde_r a1 r2)∧(Br (r2.2 != 0) (zgc_e Q_ ((⟨[],[]⟩:zgd),r2.2)) (∃ r3:zgd,(zgk_r a0 a1 r3)∧(zgc_e Q_ (r3,0))))))
def zgc_h (a0:(List zab))(a1:(List zab)):HT (zgd×Int) := .ex (Int×Int) fun r1 => .op 1 1 (.call [] (.tup [(.t (i64 r1.1)),(.t (i64 r1.2))]) []) (.both 16 (.op 3 0 (.nilv [([0],2),([1],2)]) (.fin [] [] ((⟨[],[]⟩:zgd),r1.2))) (.ex (Int×Int) fun r2 => .op 4 1 (.call [] (.tup [(.t (i64 r2.1)),(.t (i64 r2.2))]) []) (.both 25 (.op 6 0 (.nilv [([0],2),([1],2)]) (.fin [] [] ((⟨[],[]⟩:zgd),r2.2))) (.ex (zgd) fun r3 => .op 7 2 (.call [] (.agg [(.t (.sl 2 ((r3.To:List zab).map zab.enc))),(.t (.sl 2 ((r3.Back:List zab).map zab.enc)))]) []) (.fin [] [] (r3,0))))))
theorem zgc_of {a0 a1 v} (h:zgc_w a0 a1 (fun v_=>v_=v)):zgc_r a0 a1 v:=Con_of1 Tryz.call23 Tryz.func23 [] (zgc_h a0 a1) h
def zbr_s0 (a0:(List zab))(a1:(List zab))(s0_0:Int):St:=mkSt [(0,(.t (.sl 2 ((a0:List zab).map zab.enc)))),(1,(.t (.sl 2 ((a1:List zab).map zab.enc)))),(5,(.t (i64 s0_0)))] [] []
def zbr_q0_0 (a0:(List zab))(a1:(List zab))(y:Unit):St:=mkSt [(4,(.t (boo false)))] [] []
def zbr_x0_0 (a0:(List zab))(a1:(List zab))(Q:Unit→Prop)(y:Unit):Prop:=Lf .ret (zbr_q0_0 a0 a1) y (Q y)
def zbr_q0_1 (a0:(List zab))(a1:(List zab))(y:Unit):St:=mkSt [] [] []
def zbr_x0_1 (a0:(List zab))(a1:(List zab))(Q:Unit→Prop)(y:Unit):Prop:=Lf (.exit 0) (zbr_q0_1 a0 a1) y (Q y)
def zbr_L0 (a0:(List zab))(a1:(List zab))(Q0_:Unit→Prop)(Q1_:Unit→Prop)(s0_0:Int):Prop:=LW Tryz.prog 26 (loopAt Tryz.f14 0) (Outs.K (.cons .ret [.keep [4] []] (zbr_q0_0 a0 a1) Q0_ (.one (.exit 0) [.keep [] []] (zbr_q0_1 a0 a1) Q1_))) (zbr_s0 a0 a1 s0_0)
def zbr_w0 (a0:(List zab))(a1:(List zab))(X_:Int→Prop)(Q0_:Unit→Prop)(Q1_:Unit→Prop)(s0_0:Int):Prop:=Br (decide (s0_0<(lenM zab.enc a0))) (∃ xa1:zab,Got zab.enc a0 s0_0 xa1 (∃ xa2:zab,Got zab.enc a1 s0_0 xa2 (Br (!((strEq xa1.ISIN xa2.ISIN)&&((xa1.Qty==xa2.Qty)&&true))) (zbr_x0_0 a0 a1 Q0_ ()) (Num .i64 (s0_0+1) (X_ (s0_0+1)))))) (zbr_x0_1 a0 a1 Q1_ ())
def zbr_h0 (a0:(List zab))(a1:(List zab))(s0_0:Int):HT (Unit ⊕ Unit) := .both 14 (.ex (zab) fun xa1 => .op 6 2 (.row (s0_0:Int).toNat (zab.enc xa1)) (.ex (zab) fun xa2 => .op 6 6 (.row (s0_0:Int).toNat (zab.enc xa2)) (.both 25 (.ret [.keep [4] []] (.inl ())) (.op 5 1 (.nw) (.round [.keep [0,1,5] []]))))) (.ret [.keep [] []] (.inr ()))
theorem zbr_l0 {a0 a1 Q0_ Q1_ s0_0} (h:zbr_w0 a0 a1 (zbr_L0 a0 a1 Q0_ Q1_) Q0_ Q1_ s0_0):zbr_L0 a0 a1 Q0_ Q1_ s0_0:=LW_runT _ (zbr_h0 a0 a1 s0_0) h (by kernel_rfl)
def zbr_R (v:Bool):A:=(.t (boo v))
def zbr_O (v:Bool):List (Nat×O):=[]
def zbr_e (Q:Bool→Prop)(v:Bool):Prop:=Rt (zbr_R) (zbr_O) v (Q v)
def zbr_r (a0:(List zab))(a1:(List zab))(v:Bool):Prop:=Con Tryz.prog 14 [(.t (.sl 2 ((a0:List zab).map zab.enc))),(.t (.sl 2 ((a1:List zab).map zab.enc)))] [] (fun r_ o_=>r_=zbr_R v∧o_=zbr_O v)
def zbr_w (a0:(List zab))(a1:(List zab))(Q_:Bool→Prop):Prop:=Br ((lenM zab.enc a0) != (lenM zab.enc a1)) (zbr_e Q_ false) (zbr_L0 a0 a1 (fun (y1:Unit)=>zbr_e Q_ false) (fun (y1:Unit)=>zbr_e Q_ true) 0)
def zbr_h (a0:(List zab))(a1:(List zab)):HT Bool := .both 10 (.fin [] [] false) (.loop [.keep [0,1,5] []] (.out (Unit) .ret [.keep [4] []] (zbr_q0_0 a0 a1) (fun y1 => .fin [] [] false) (.out (Unit) (.exit 0) [.keep [] []] (zbr_q0_1 a0 a1) (fun y1 => .fin [] [] true) (.nil))))
theorem zbr_of {a0 a1 v} (h:zbr_w a0 a1 (fun v_=>v_=v)):zbr_r a0 a1 v:=Con_of1 Tryz.call14 Tryz.func14 [] (zbr_h a0 a1) h
def zeq_R (v:Bool):A:=(.t (boo v))
def zeq_O (v:Bool):List (Nat×O):=[]
def zeq_e (Q:Bool→Prop)(v:Bool):Prop:=Rt (zeq_R) (zeq_O) v (Q v)
def zeq_r (v:Bool):Prop:=Con Tryz.prog 7 [] [] (fun r_ o_=>r_=zeq_R v∧o_=zeq_O v)
def zeq_w (Q_:Bool→Prop):Prop:=∃ r1:zgd×Int,(zgc_r ([(⟨(⟨#[65]⟩:ByteArray),5⟩:zab),(⟨(⟨#[66]⟩:ByteArray),2⟩:zab)]) ([(⟨(⟨#[65]⟩:ByteArray),3⟩:zab),(⟨(⟨#[67]⟩:ByteArray),4⟩:zab)]) r1)∧(Br (r1.2==0) (∃ r2:Bool,(zbr_r r1.1.To ([(⟨(⟨#[67]⟩:ByteArray),4⟩:zab)]) r2)∧(Br r2 (∃ r3:Bool,(zbr_r r1.1.Back ([(⟨(⟨#[65]⟩:ByteArray),2⟩:zab),(⟨(⟨#[66]⟩:ByteArray),2⟩:zab)]) r3)∧(zeq_e Q_ r3)) (zeq_e Q_ false))) (zeq_e Q_ false))
def zeq_h:HT Bool := .op 1 2 (.fz) (.op 1 5 (.fz) (.ex (zgd×Int) fun r1 => .op 1 6 (.call [] (.tup [(.agg [(.t (.sl 2 ((r1.1.To:List zab).map zab.enc))),(.t (.sl 2 ((r1.1.Back:List zab).map zab.enc)))]),(.t (i64 r1.2))]) []) (.bo 2 2 (.ex (Bool) fun r2 => .op 2 7 (.ro (.t (boo r2))) (.bo 2 9 (.ex (Bool) fun r3 => .op 2 15 (.ro (.t (boo r3))) (.fin [] [] r3)) (.fin [] [] false))) (.fin [] [] false))))
theorem zeq_of {v} (h:zeq_w (fun v_=>v_=v)):zeq_r v:=Con_of1 Tryz.call7 Tryz.func7 [] (zeq_h) h
def zhb_R (v:zat):A:=(.at 700 0)
def zhb_O (v:zat):List (Nat×O):=[(700,(.box [(.ref 1701),(.ref 1702),(.t (boo v.made))])),(1701,(.row 5 ((v.l:List zag).map zag.enc))),(1702,(.row 1 ((v.prices:List Int).map eN)))]
def zhb_e (Q:zat→Prop)(v:zat):Prop:=Rt (zhb_R) (zhb_O) v (Q v)
def zhb_r (v:zat):Prop:=Con Tryz.prog 24 [] [] (fun r_ o_=>r_=zhb_R v∧o_=zhb_O v)
def zhb_w (Q_:zat→Prop):Prop:=zhb_e Q_ (⟨[],[],true⟩:zat)
def zhb_h:HT zat := .fin [.ren 2 700, .ownC 700 0 1701 5, .ownC 700 1 1702 1] [] (⟨[],[],true⟩:zat)
theorem zhb_of {v} (h:zhb_w (fun v_=>v_=v)):zhb_r v:=Con_of1 Tryz.call24 Tryz.func24 [700,1701,1702] (zhb_h) h
def zgr_R (v:Bool):A:=(.t (boo v))
def zgr_O (v:Bool):List (Nat×O):=[]
def zgr_e (Q:Bool→Prop)(v:Bool):Prop:=Rt (zgr_R) (zgr_O) v (Q v)
def zgr_r (a0:Int)(v:Bool):Prop:=Con Tryz.prog 147 [(.t (.v (.int .u8 a0)))] [] (fun r_ o_=>r_=zgr_R v∧o_=zgr_O v)
def zgr_w (a0:Int)(Q_:Bool→Prop):Prop:=Br (decide (a0≥48)) (zgr_e Q_ (decide (a0≤57))) (zgr_e Q_ false)
def zgr_h (a0:Int):HT Bool := .bo 1 2 (.fin [] [] (decide (a0≤57))) (.fin [] [] false)
theorem zgr_of {a0 v} (h:zgr_w a0 (fun v_=>v_=v)):zgr_r a0 v:=Con_of1 Tryz.call147 Tryz.func147 [] (zgr_h a0) h
def zgx_R (v:Bool):A:=(.t (boo v))
def zgx_O (v:Bool):List (Nat×O):=[]
def zgx_e (Q:Bool→Prop)(v:Bool):Prop:=Rt (zgx_R) (zgx_O) v (Q v)
def zgx_r (a0:Int)(v:Bool):Prop:=Con Tryz.prog 203 [(.t (.v (.int .u8 a0)))] [] (fun r_ o_=>r_=zgx_R v∧o_=zgx_O v)
def zgx_w (a0:Int)(Q_:Bool→Prop):Prop:=Br (decide (a0≥65)) (zgx_e Q_ (decide (a0≤90))) (zgx_e Q_ false)
def zgx_h (a0:Int):HT Bool := .bo 1 2 (.fin [] [] (decide (a0≤90))) (.fin [] [] false)
theorem zgx_of {a0 v} (h:zgx_w a0 (fun v_=>v_=v)):zgx_r a0 v:=Con_of1 Tryz.call203 Tryz.func203 [] (zgx_h a0) h
def zdn_s0 (a0:ByteArray)(s0_0:Int):St:=mkSt [(0,(.t (str a0))),(5,(.t (i64 (a0.size:Int)))),(6,(.t (i64 s0_0)))] [] []
def zdn_q0_0 (a0:ByteArray)(y:Unit):St:=mkSt [(2,(.t (boo false)))] [] []
def zdn_x0_0 (a0:ByteArray)(Q:Unit→Prop)(y:Unit):Prop:=Lf .ret (zdn_q0_0 a0) y (Q y)
def zdn_q0_1 (a0:ByteArray)(y:Unit):St:=mkSt [(0,(.t (str a0)))] [] []
def zdn_x0_1 (a0:ByteArray)(Q:Unit→Prop)(y:Unit):Prop:=Lf (.exit 0) (zdn_q0_1 a0) y (Q y)
def zdn_L0 (a0:ByteArray)(Q0_:Unit→Prop)(Q1_:Unit→Prop)(s0_0:Int):Prop:=LW Tryz.prog 29 (loopAt Tryz.f184 0) (Outs.K (.cons .ret [.keep [2] []] (zdn_q0_0 a0) Q0_ (.one (.exit 0) [.keep [0] []] (zdn_q0_1 a0) Q1_))) (zdn_s0 a0 s0_0)
def zdn_w0 (a0:ByteArray)(X_:Int→Prop)(Q0_:Unit→Prop)(Q1_:Unit→Prop)(s0_0:Int):Prop:=Br (decide (s0_0<(a0.size:Int))) (∃ ca1:Int,StrG a0 s0_0 ca1 (∃ ra2:Bool,(zgx_r ca1 ra2)∧(Br (!ra2) (Br (decide (s0_0<2)) (zdn_x0_0 a0 Q0_ ()) (StrG a0 s0_0 ca1 (∃ ra3:Bool,(zgr_r ca1 ra3)∧(Br (!ra3) (zdn_x0_0 a0 Q0_ ()) (Num .i64 (s0_0+1) (X_ (s0_0+1))))))) (Num .i64 (s0_0+1) (X_ (s0_0+1)))))) (zdn_x0_1 a0 Q1_ ())
def zdn_h0 (a0:ByteArray)(s0_0:Int):HT (Unit ⊕ Unit) := .both 7 (.ex (Int) fun ca1 => .op 4 2 (.row (s0_0:Int).toNat [.v (.int .u8 ca1)]) (.ex (Bool) fun ra2 => .op 4 3 (.call [] (.t (boo ra2)) []) (.bo 4 5 (.bo 4 8 (.ret [.keep [2] []] (.inl ())) (.op 4 11 (.row (s0_0:Int).toNat [.v (.int .u8 ca1)]) (.ex (Bool) fun ra3 => .op 4 12 (.call [] (.t (boo ra3)) []) (.both 24 (.ret [.keep [2] []] (.inl ())) (.op 6 0 (.nw) (.round [.keep [0,5,6] []])))))) (.op 6 0 (.nw) (.round [.keep [0,5,6] []]))))) (.ret [.keep [0] []] (.inr ()))
theorem zdn_l0 {a0 Q0_ Q1_ s0_0} (h:zdn_w0 a0 (zdn_L0 a0 Q0_ Q1_) Q0_ Q1_ s0_0):zdn_L0 a0 Q0_ Q1_ s0_0:=LW_runT _ (zdn_h0 a0 s0_0) h (by kernel_rfl)
def zdn_R (v:Bool):A:=(.t (boo v))
def zdn_O (v:Bool):List (Nat×O):=[]
def zdn_e (Q:Bool→Prop)(v:Bool):Prop:=Rt (zdn_R) (zdn_O) v (Q v)
def zdn_r (a0:ByteArray)(v:Bool):Prop:=Con Tryz.prog 184 [(.t (str a0))] [] (fun r_ o_=>r_=zdn_R v∧o_=zdn_O v)
def zdn_w (a0:ByteArray)(Q_:Bool→Prop):Prop:=zdn_L0 a0 (fun (y1:Unit)=>zdn_e Q_ false) (fun (y1:Unit)=>zdn_e Q_ ((a0.size:Int)==11)) 0
def zdn_h (a0:ByteArray):HT Bool := .loop [.keep [0,5,6] []] (.out (Unit) .ret [.keep [2] []] (zdn_q0_0 a0) (fun y1 => .fin [] [] false) (.out (Unit) (.exit 0) [.keep [0] []] (zdn_q0_1 a0) (fun y1 => .fin [] [] ((a0.size:Int)==11)) (.nil)))
theorem zdn_of {a0 v} (h:zdn_w a0 (fun v_=>v_=v)):zdn_r a0 v:=Con_of1 Tryz.call184 Tryz.func184 [] (zdn_h a0) h
def zgg_R (v:Bool×Int):A:=(.tup [])
def zgg_O (v:Bool×Int):List (Nat×O):=[(640,(.box [(.t (boo v.1))])),(642,(.box [(.t (i64 v.2))]))]
def zgg_e (Q:(Bool×Int)→Prop)(v:Bool×Int):Prop:=Rt (zgg_R) (zgg_O) v (Q v)
def zgg_r (a0:Int)(c0:Bool)(c1:Int)(v:Bool×Int):Prop:=Con Tryz.prog 204 [(.t (i64 a0)),(.at 640 0),(.at 642 0)] [(640,(.box [(.t (boo c0))])),(642,(.box [(.t (i64 c1))]))] (fun r_ o_=>r_=zgg_R v∧o_=zgg_O v)
def zgg_w (a0:Int)(c0:Bool)(c1:Int)(Q_:(Bool×Int)→Prop):Prop:=Br c0 (Num .i64 (a0*2) (Quo' .i64 (a0*2) 10 (Rem' .i64 (a0*2) 10 (Num .i64 (((a0*2)/10)+((a0*2)%10)) (Num .i64 (c1+(((a0*2)/10)+((a0*2)%10))) (zgg_e Q_ ((!c0),(c1+(((a0*2)/10)+((a0*2)%10)))))))))) (Num .i64 (c1+a0) (zgg_e Q_ ((!c0),(c1+a0))))
def zgg_h (a0:Int)(c0:Bool)(c1:Int):HT (Bool×Int) := .both 4 (.op 1 1 (.nw) (.op 2 1 (.nw) (.op 2 3 (.nw) (.op 2 4 (.nw) (.op 3 2 (.nw) (.fin [] [] ((!c0),(c1+(((a0*2)/10)+((a0*2)%10)))))))))) (.op 3 2 (.nw) (.fin [] [] ((!c0),(c1+a0))))
theorem zgg_of {a0 c0 c1 v} (h:zgg_w a0 c0 c1 (fun v_=>v_=v)):zgg_r a0 c0 c1 v:=Con_of1 Tryz.call204 Tryz.func204 [640,642] (zgg_h a0 c0 c1) h
def zek_s0 (a0:ByteArray)(s0_0:Int)(s0_1:Bool)(s0_2:Int):St:=mkSt [(0,(.t (str a0))),(5,(.at 5 0)),(6,(.fn 204 [(.at 3 0),(.at 5 0)])),(7,(.t (i64 s0_0)))] [(3,(.box [(.t (boo s0_1))])),(5,(.box [(.t (i64 s0_2))]))] []
def zek_q0_0 (a0:ByteArray)(y:Int):St:=mkSt [(5,(.at 5 0))] [(5,(.box [(.t (i64 y))]))] []
def zek_x0_0 (a0:ByteArray)(Q:Int→Prop)(y:Int):Prop:=Lf (.exit 0) (zek_q0_0 a0) y (Q y)
def zek_L0 (a0:ByteArray)(Q0_:Int→Prop)(s0_0:Int)(s0_1:Bool)(s0_2:Int):Prop:=LW Tryz.prog 43 (loopAt Tryz.f185 0) (Outs.K (.one (.exit 0) [.keep [5] [5]] (zek_q0_0 a0) Q0_)) (zek_s0 a0 s0_0 s0_1 s0_2)
def zek_w0 (a0:ByteArray)(X_:Int→Bool→Int→Prop)(Q0_:Int→Prop)(s0_0:Int)(s0_1:Bool)(s0_2:Int):Prop:=Br (decide (s0_0≥0)) (∃ ca1:Int,StrG a0 s0_0 ca1 (∃ ra2:Bool,(zgr_r ca1 ra2)∧(Br ra2 (StrG a0 s0_0 ca1 (Num .i64 (IntKind.wrap .u8 (ca1-48)) (∃ ra3:Bool×Int,(zgg_r (IntKind.wrap .u8 (ca1-48)) s0_1 s0_2 ra3)∧(Num .i64 (s0_0-1) (X_ (s0_0-1) ra3.1 ra3.2))))) (StrG a0 s0_0 ca1 (Num .i64 (IntKind.wrap .u8 (ca1-65)) (Num .i64 ((IntKind.wrap .u8 (ca1-65))+10) (Rem' .i64 ((IntKind.wrap .u8 (ca1-65))+10) 10 (∃ ra3:Bool×Int,(zgg_r (((IntKind.wrap .u8 (ca1-65))+10)%10) s0_1 s0_2 ra3)∧(Quo' .i64 ((IntKind.wrap .u8 (ca1-65))+10) 10 (∃ ra4:Bool×Int,(zgg_r (((IntKind.wrap .u8 (ca1-65))+10)/10) ra3.1 ra3.2 ra4)∧(Num .i64 (s0_0-1) (X_ (s0_0-1) ra4.1 ra4.2)))))))))))) (zek_x0_0 a0 Q0_ s0_2)
def zek_h0 (a0:ByteArray)(s0_0:Int)(s0_1:Bool)(s0_2:Int):HT Int := .both 14 (.ex (Int) fun ca1 => .op 6 2 (.row (s0_0:Int).toNat [.v (.int .u8 ca1)]) (.ex (Bool) fun ra2 => .op 6 3 (.call [] (.t (boo ra2)) []) (.both 20 (.reg 7 [.ren 3 640, .ren 5 642] [] (.op 7 3 (.row (s0_0:Int).toNat [.v (.int .u8 ca1)]) (.op 7 5 (.nw) (.ex (Bool×Int) fun ra3 => .op 7 6 (.call [640,642] (.tup []) [(640,(.box [(.t (boo ra3.1))])),(642,(.box [(.t (i64 ra3.2))]))]) (.op 5 1 (.nw) (.round [.ren 642 5, .ren 640 3, .keep [0,5,6,7] [3,5]])))))) (.op 8 2 (.row (s0_0:Int).toNat [.v (.int .u8 ca1)]) (.op 8 4 (.nw) (.op 8 5 (.nw) (.reg 9 [.ren 3 640, .ren 5 642] [] (.op 9 2 (.nw) (.ex (Bool×Int) fun ra3 => .op 9 3 (.call [640,642] (.tup []) [(640,(.box [(.t (boo ra3.1))])),(642,(.box [(.t (i64 ra3.2))]))]) (.op 10 2 (.nw) (.ex (Bool×Int) fun ra4 => .op 10 3 (.call [640,642] (.tup []) [(640,(.box [(.t (boo ra4.1))])),(642,(.box [(.t (i64 ra4.2))]))]) (.op 5 1 (.nw) (.round [.ren 642 5, .ren 640 3, .keep [0,5,6,7] [3,5]]))))))))))))) (.ret [.keep [5] [5]] s0_2)
theorem zek_l0 {a0 Q0_ s0_0 s0_1 s0_2} (h:zek_w0 a0 (zek_L0 a0 Q0_) Q0_ s0_0 s0_1 s0_2):zek_L0 a0 Q0_ s0_0 s0_1 s0_2:=LW_runT _ (zek_h0 a0 s0_0 s0_1 s0_2) h (by kernel_rfl)
def zek_R (v:Int):A:=(.t (i64 v))
def zek_O (v:Int):List (Nat×O):=[]
def zek_e (Q:Int→Prop)(v:Int):Prop:=Rt (zek_R) (zek_O) v (Q v)
def zek_r (a0:ByteArray)(a1:Bool)(v:Int):Prop:=Con Tryz.prog 185 [(.t (str a0)),(.t (boo a1))] [] (fun r_ o_=>r_=zek_R v∧o_=zek_O v)
def zek_w (a0:ByteArray)(a1:Bool)(Q_:Int→Prop):Prop:=Num .i64 ((a0.size:Int)-1) (zek_L0 a0 (fun (y1:Int)=>zek_e Q_ y1) ((a0.size:Int)-1) a1 0)
def zek_h (a0:ByteArray)(a1:Bool):HT Int := .op 3 2 (.nw) (.loop [.keep [0,5,6,7] [3,5]] (.out (Int) (.exit 0) [.keep [5] [5]] (zek_q0_0 a0) (fun y1 => .fin [] [] y1) (.nil)))
theorem zek_of {a0 a1 v} (h:zek_w a0 a1 (fun v_=>v_=v)):zek_r a0 a1 v:=Con_of1 Tryz.call185 Tryz.func185 [] (zek_h a0 a1) h
def zgy_R (v:Int×Int):A:=(.tup [(.t (.v (.int .u8 v.1))),(.t (i64 v.2))])
def zgy_O (v:Int×Int):List (Nat×O):=[]
def zgy_e (Q:(Int×Int)→Prop)(v:Int×Int):Prop:=Rt (zgy_R) (zgy_O) v (Q v)
def zgy_r (a0:ByteArray)(v:Int×Int):Prop:=Con Tryz.prog 148 [(.t (str a0))] [] (fun r_ o_=>r_=zgy_R v∧o_=zgy_O v)
def zgy_w (a0:ByteArray)(Q_:(Int×Int)→Prop):Prop:=∃ r1:Bool,(zdn_r a0 r1)∧(Br (!r1) (zgy_e Q_ (0,11)) (∃ r2:Int,(zek_r a0 true r2)∧(Rem' .i64 r2 10 (Num .i64 (10-(r2%10)) (Rem' .i64 (10-(r2%10)) 10 (Num .i64 (48+((10-(r2%10))%10)) (zgy_e Q_ ((IntKind.wrap .u8 (48+((10-(r2%10))%10))),0))))))))
def zgy_h (a0:ByteArray):HT (Int×Int) := .ex (Bool) fun r1 => .op 1 1 (.call [] (.t (boo r1)) []) (.both 6 (.fin [] [] (0,11)) (.ex (Int) fun r2 => .op 3 1 (.call [] (.t (i64 r2)) []) (.op 3 2 (.nw) (.op 3 3 (.nw) (.op 3 4 (.nw) (.op 3 5 (.nw) (.fin [] [] ((IntKind.wrap .u8 (48+((10-(r2%10))%10))),0))))))))
theorem zgy_of {a0 v} (h:zgy_w a0 (fun v_=>v_=v)):zgy_r a0 v:=Con_of1 Tryz.call148 Tryz.func148 [] (zgy_h a0) h
def zgn_R (v:Int):A:=(.t (i64 v))
def zgn_O (v:Int):List (Nat×O):=[]
def zgn_e (Q:Int→Prop)(v:Int):Prop:=Rt (zgn_R) (zgn_O) v (Q v)
def zgn_r (a0:ByteArray)(v:Int):Prop:=Con Tryz.prog 91 [(.t (str a0))] [] (fun r_ o_=>r_=zgn_R v∧o_=zgn_O v)
def zgn_w (a0:ByteArray)(Q_:Int→Prop):Prop:=Br ((a0.size:Int) != 12) (zgn_e Q_ 11) (∃ c1:Int,StrG a0 11 c1 (∃ r2:Bool,(zgr_r c1 r2)∧(Br (!r2) (zgn_e Q_ 11) (CutSh a0 11 (∃ r3:Int×Int,(zgy_r (a0.extract 0 ((11:Int).toNat)) r3)∧(Br (r3.2==0) (StrG a0 11 c1 (Br (r3.1 != c1) (zgn_e Q_ 12) (zgn_e Q_ r3.2))) (zgn_e Q_ r3.2)))))))
def zgn_h (a0:ByteArray):HT Int := .bo 1 3 (.fin [] [] 11) (.ex (Int) fun c1 => .op 1 5 (.row (11:Int).toNat [.v (.int .u8 c1)]) (.ex (Bool) fun r2 => .op 1 6 (.call [] (.t (boo r2)) []) (.both 13 (.fin [] [] 11) (.op 3 1 (.cut 0 (11:Int).toNat) (.ex (Int×Int) fun r3 => .op 3 2 (.call [] (.tup [(.t (.v (.int .u8 r3.1))),(.t (i64 r3.2))]) []) (.bo 4 2 (.op 4 5 (.row (11:Int).toNat [.v (.int .u8 c1)]) (.both 27 (.fin [] [] 12) (.fin [] [] r3.2))) (.fin [] [] r3.2)))))))
theorem zgn_of {a0 v} (h:zgn_w a0 (fun v_=>v_=v)):zgn_r a0 v:=Con_of1 Tryz.call91 Tryz.func91 [] (zgn_h a0) h
def zfi_R (v:Bool):A:=(.t (boo v))
def zfi_O (v:Bool):List (Nat×O):=[]
def zfi_e (Q:Bool→Prop)(v:Bool):Prop:=Rt (zfi_R) (zfi_O) v (Q v)
def zfi_r (a0:ByteArray)(v:Bool):Prop:=Con Tryz.prog 92 [(.t (str a0))] [] (fun r_ o_=>r_=zfi_R v∧o_=zfi_O v)
def zfi_w (a0:ByteArray)(Q_:Bool→Prop):Prop:=Br (strEq a0 (⟨#[69,85,82]⟩:ByteArray)) (Br (strEq a0 (⟨#[69,85,82]⟩:ByteArray)) (zfi_e Q_ true) (False)) (Br (strEq a0 (⟨#[85,83,68]⟩:ByteArray)) (Br (strEq a0 (⟨#[85,83,68]⟩:ByteArray)) (zfi_e Q_ true) (False)) (Br (strEq a0 (⟨#[71,66,80]⟩:ByteArray)) (Br (strEq a0 (⟨#[71,66,80]⟩:ByteArray)) (zfi_e Q_ true) (False)) (Br (strEq a0 (⟨#[67,72,70]⟩:ByteArray)) (Br (strEq a0 (⟨#[67,72,70]⟩:ByteArray)) (zfi_e Q_ true) (False)) (Br (strEq a0 (⟨#[74,80,89]⟩:ByteArray)) (Br (strEq a0 (⟨#[74,80,89]⟩:ByteArray)) (zfi_e Q_ true) (False)) (Br (strEq a0 (⟨#[83,69,75]⟩:ByteArray)) (Br (strEq a0 (⟨#[83,69,75]⟩:ByteArray)) (zfi_e Q_ true) (False)) (Br (strEq a0 (⟨#[78,79,75]⟩:ByteArray)) (Br (strEq a0 (⟨#[78,79,75]⟩:ByteArray)) (zfi_e Q_ true) (False)) (Br (strEq a0 (⟨#[68,75,75]⟩:ByteArray)) (zfi_e Q_ true) (zfi_e Q_ false))))))))
def zfi_h (a0:ByteArray):HT Bool := .both 4 (.both 4 (.fin [] [] true) (.nil)) (.both 4 (.both 4 (.fin [] [] true) (.nil)) (.both 4 (.both 4 (.fin [] [] true) (.nil)) (.both 4 (.both 4 (.fin [] [] true) (.nil)) (.both 4 (.both 4 (.fin [] [] true) (.nil)) (.both 4 (.both 4 (.fin [] [] true) (.nil)) (.both 4 (.both 4 (.fin [] [] true) (.nil)) (.both 4 (.fin [] [] true) (.fin [] [] false))))))))
theorem zfi_of {a0 v} (h:zfi_w a0 (fun v_=>v_=v)):zfi_r a0 v:=Con_of1 Tryz.call92 Tryz.func92 [] (zfi_h a0) h
def zge_R (v:Int):A:=(.t (i64 v))
def zge_O (v:Int):List (Nat×O):=[]
def zge_e (Q:Int→Prop)(v:Int):Prop:=Rt (zge_R) (zge_O) v (Q v)
def zge_r (a0:zag)(v:Int):Prop:=Con Tryz.prog 51 [(.agg [(.t (str a0.ISIN)),(.t (i64 a0.Issuer)),(.t (i64 a0.Rating)),(.t (i64 a0.Maturity)),(.t (str a0.Currency))])] [] (fun r_ o_=>r_=zge_R v∧o_=zge_O v)
def zge_w (a0:zag)(Q_:Int→Prop):Prop:=∃ r1:Int,(zgn_r a0.ISIN r1)∧(Br (r1 != 0) (zge_e Q_ r1) (∃ r2:Bool,(zfi_r a0.Currency r2)∧(Br (!r2) (zge_e Q_ 11) (Br (decide (a0.Issuer<0)) (zge_e Q_ 1) (Br (decide (a0.Issuer>9999)) (zge_e Q_ 1) (Br (decide (a0.Rating<0)) (zge_e Q_ 1) (Br (decide (a0.Rating>20)) (zge_e Q_ 1) (Br (decide (a0.Maturity<0)) (zge_e Q_ 10) (Br (decide (a0.Maturity>200000)) (zge_e Q_ 10) (zge_e Q_ 0))))))))))
def zge_h (a0:zag):HT Int := .ex (Int) fun r1 => .op 1 2 (.call [] (.t (i64 r1)) []) (.both 8 (.fin [] [] r1) (.ex (Bool) fun r2 => .op 4 2 (.call [] (.t (boo r2)) []) (.both 10 (.fin [] [] 11) (.bo 6 3 (.fin [] [] 1) (.bo 6 8 (.fin [] [] 1) (.bo 6 13 (.fin [] [] 1) (.both 15 (.fin [] [] 1) (.bo 8 3 (.fin [] [] 10) (.both 34 (.fin [] [] 10) (.fin [] [] 0))))))))))
theorem zge_of {a0 v} (h:zge_w a0 (fun v_=>v_=v)):zge_r a0 v:=Con_of1 Tryz.call51 Tryz.func51 [] (zge_h a0) h
def zeu_R (v:Int×zat):A:=(.t (i64 v.1))
def zeu_O (v:Int×zat):List (Nat×O):=[(700,(.box [(.ref 1701),(.ref 1702),(.t (boo v.2.made))])),(1701,(.row 5 ((v.2.l:List zag).map zag.enc))),(1702,(.row 1 ((v.2.prices:List Int).map eN)))]
def zeu_e (Q:(Int×zat)→Prop)(v:Int×zat):Prop:=Rt (zeu_R) (zeu_O) v (Q v)
def zeu_r (a0:zat)(a1:zag)(v:Int×zat):Prop:=Con Tryz.prog 25 [(.at 700 0),(.agg [(.t (str a1.ISIN)),(.t (i64 a1.Issuer)),(.t (i64 a1.Rating)),(.t (i64 a1.Maturity)),(.t (str a1.Currency))])] [(700,(.box [(.ref 1701),(.ref 1702),(.t (boo a0.made))])),(1701,(.row 5 ((a0.l:List zag).map zag.enc))),(1702,(.row 1 ((a0.prices:List Int).map eN)))] (fun r_ o_=>r_=zeu_R v∧o_=zeu_O v)
def zeu_w (a0:zat)(a1:zag)(Q_:(Int×zat)→Prop):Prop:=Br (!a0.made) (zeu_e Q_ (3,a0)) (∃ r1:Int,(zge_r a1 r1)∧(Br (r1 != 0) (zeu_e Q_ (r1,a0)) (∃ r2:Int×Bool,(zes_r a0 a1.ISIN r2)∧(Br r2.2 (zeu_e Q_ (7,a0)) (Br (decide ((lenM zag.enc a0.l)≥64)) (zeu_e Q_ (18,a0)) (∃ r3:(List zag),(InsR Tryz.prog 53 5 zag.enc a0.l r2.1 [a1] r3)∧(∃ r4:(List Int),(InsR Tryz.prog 54 1 eN a0.prices r2.1 [0] r4)∧(zeu_e Q_ (0,(⟨r3,r4,a0.made⟩:zat))))))))))
def zeu_h (a0:zat)(a1:zag):HT (Int×zat) := .both 16 (.fin [] [] (3,a0)) (.ex (Int) fun r1 => .op 3 1 (.call [] (.t (i64 r1)) []) (.both 20 (.fin [] [] (r1,a0)) (.reg 6 [.ren 1701 701, .ren 1702 702] [] (.ex (Int×Bool) fun r2 => .op 6 3 (.callR [] [700,701,702] [700,701,702] (.tup [(.t (i64 r2.1)),(.t (boo r2.2))]) []) (.both 29 (.fin [.ren 701 1701, .ren 702 1702] [] (7,a0)) (.both 31 (.fin [.ren 701 1701, .ren 702 1702] [] (18,a0)) (.reg 11 [.ren 701 620] [622,1600] (.op 11 7 (.id 622) (.ex ((List zag)) fun r3 => .op 11 8 (.call [620,622] (.ref 1600) [(1600,(.row 5 ((r3:List zag).map zag.enc)))]) (.reg 12 [.ren 702 620, .ren 1600 1640] [] (.op 12 6 (.id 622) (.ex ((List Int)) fun r4 => .op 12 7 (.call [620,622] (.ref 1600) [(1600,(.row 1 ((r4:List Int).map eN)))]) (.fin [.ren 1640 1701, .ren 1600 1702] [] (0,(⟨r3,r4,a0.made⟩:zat)))))))))))))))
theorem zeu_of {a0 a1 v} (h:zeu_w a0 a1 (fun v_=>v_=v)):zeu_r a0 a1 v:=Con_of1 Tryz.call25 Tryz.func25 [700,1701,1702] (zeu_h a0 a1) h
def zbi_s0 (a0:ByteArray)(s0_0:Int)(s0_1:(List Int)):St:=mkSt [(0,(.t (str a0))),(4,(.ref 44)),(5,(.t (i64 s0_0)))] [(44,(.row 1 ((s0_1:List Int).map eN)))] []
def zbi_q0_0 (a0:ByteArray)(y:Unit):St:=mkSt [(2,(.t (.v (.slice none 0 0)))),(3,(.t (boo false)))] [] []
def zbi_x0_0 (a0:ByteArray)(Q:Unit→Prop)(y:Unit):Prop:=Lf .ret (zbi_q0_0 a0) y (Q y)
def zbi_q0_1 (a0:ByteArray)(y:(List Int)):St:=mkSt [(4,(.ref 44))] [(44,(.row 1 ((y:List Int).map eN)))] []
def zbi_x0_1 (a0:ByteArray)(Q:(List Int)→Prop)(y:(List Int)):Prop:=Lf (.exit 0) (zbi_q0_1 a0) y (Q y)
def zbi_L0 (a0:ByteArray)(Q0_:Unit→Prop)(Q1_:(List Int)→Prop)(s0_0:Int)(s0_1:(List Int)):Prop:=LW Tryz.prog 46 (loopAt Tryz.f188 0) (Outs.K (.cons .ret [.keep [2,3] []] (zbi_q0_0 a0) Q0_ (.one (.exit 0) [.keep [4] [44]] (zbi_q0_1 a0) Q1_))) (zbi_s0 a0 s0_0 s0_1)
def zbi_w0 (a0:ByteArray)(X_:Int→(List Int)→Prop)(Q0_:Unit→Prop)(Q1_:(List Int)→Prop)(s0_0:Int)(s0_1:(List Int)):Prop:=Br (decide (s0_0<(a0.size:Int))) (∃ ca1:Int,StrG a0 s0_0 ca1 (Num .i64 ca1 (Br (decide (ca1≥48)) (Br (decide (ca1≤57)) (Num .i64 (ca1-48) (App2 8 eN s0_1 [(ca1-48)] (Num .i64 (s0_0+1) (X_ (s0_0+1) (s0_1++[(ca1-48)]))))) (Br (decide (ca1≥65)) (Br (decide (ca1≤90)) (Num .i64 (ca1-65) (Num .i64 ((ca1-65)+10) (Quo' .i64 ((ca1-65)+10) 10 (Num .i64 (ca1-65) (Num .i64 ((ca1-65)+10) (Rem' .i64 ((ca1-65)+10) 10 (App2 8 eN s0_1 [(((ca1-65)+10)/10),(((ca1-65)+10)%10)] (Num .i64 (s0_0+1) (X_ (s0_0+1) (s0_1++[(((ca1-65)+10)/10),(((ca1-65)+10)%10)])))))))))) (zbi_x0_0 a0 Q0_ ())) (zbi_x0_0 a0 Q0_ ()))) (Br (decide (ca1≥65)) (Br (decide (ca1≤90)) (Num .i64 (ca1-65) (Num .i64 ((ca1-65)+10) (Quo' .i64 ((ca1-65)+10) 10 (Num .i64 (ca1-65) (Num .i64 ((ca1-65)+10) (Rem' .i64 ((ca1-65)+10) 10 (App2 8 eN s0_1 [(((ca1-65)+10)/10),(((ca1-65)+10)%10)] (Num .i64 (s0_0+1) (X_ (s0_0+1) (s0_1++[(((ca1-65)+10)/10),(((ca1-65)+10)%10)])))))))))) (zbi_x0_0 a0 Q0_ ())) (zbi_x0_0 a0 Q0_ ()))))) (zbi_x0_1 a0 Q1_ s0_1)
def zbi_h0 (a0:ByteArray)(s0_0:Int)(s0_1:(List Int)):HT (Unit ⊕ (List Int)) := .both 10 (.ex (Int) fun ca1 => .op 5 2 (.row (s0_0:Int).toNat [.v (.int .u8 ca1)]) (.op 5 3 (.nw) (.bo 6 2 (.both 22 (.op 7 2 (.nw) (.op 7 4 (.no) (.rw 27 (((s0_1++[(ca1-48)]):List Int).map eN) (.op 4 1 (.nw) (.round [.ren 27 44, .keep [0,4,5] [44]]))))) (.bo 8 2 (.both 33 (.op 9 2 (.nw) (.op 9 3 (.nw) (.op 9 4 (.nw) (.op 9 6 (.nw) (.op 9 7 (.nw) (.op 9 8 (.nw) (.op 9 10 (.no) (.rw 44 (((s0_1++[(((ca1-65)+10)/10),(((ca1-65)+10)%10)]):List Int).map eN) (.op 4 1 (.nw) (.round [.keep [0,4,5] [44]])))))))))) (.ret [.keep [2,3] []] (.inl ()))) (.ret [.keep [2,3] []] (.inl ())))) (.bo 8 2 (.both 33 (.op 9 2 (.nw) (.op 9 3 (.nw) (.op 9 4 (.nw) (.op 9 6 (.nw) (.op 9 7 (.nw) (.op 9 8 (.nw) (.op 9 10 (.no) (.rw 44 (((s0_1++[(((ca1-65)+10)/10),(((ca1-65)+10)%10)]):List Int).map eN) (.op 4 1 (.nw) (.round [.keep [0,4,5] [44]])))))))))) (.ret [.keep [2,3] []] (.inl ()))) (.ret [.keep [2,3] []] (.inl ())))))) (.ret [.keep [4] [44]] (.inr s0_1))
theorem zbi_l0 {a0 Q0_ Q1_ s0_0 s0_1} (h:zbi_w0 a0 (zbi_L0 a0 Q0_ Q1_) Q0_ Q1_ s0_0 s0_1):zbi_L0 a0 Q0_ Q1_ s0_0 s0_1:=LW_runT _ (zbi_h0 a0 s0_0 s0_1) h (by kernel_rfl)
def zbi_R (v:(List Int)×Bool):A:=(.tup [(.t (.sl 1 ((v.1:List Int).map eN))),(.t (boo v.2))])
def zbi_O (v:(List Int)×Bool):List (Nat×O):=[]
def zbi_e (Q:((List Int)×Bool)→Prop)(v:(List Int)×Bool):Prop:=Rt (zbi_R) (zbi_O) v (Q v)
def zbi_r (a0:ByteArray)(v:(List Int)×Bool):Prop:=Con Tryz.prog 188 [(.t (str a0))] [] (fun r_ o_=>r_=zbi_R v∧o_=zbi_O v)
def zbi_w (a0:ByteArray)(Q_:((List Int)×Bool)→Prop):Prop:=zbi_L0 a0 (fun (y1:Unit)=>zbi_e Q_ ([],false)) (fun (y1:(List Int))=>zbi_e Q_ (y1,true)) 0 []
def zbi_h (a0:ByteArray):HT ((List Int)×Bool) := .loop [.own 4 44 1, .keep [0,4,5] [44]] (.out (Unit) .ret [.keep [2,3] []] (zbi_q0_0 a0) (fun y1 => .fin [] [([0],1)] ([],false)) (.out ((List Int)) (.exit 0) [.keep [4] [44]] (zbi_q0_1 a0) (fun y1 => .fin [] [] (y1,true)) (.nil)))
theorem zbi_of {a0 v} (h:zbi_w a0 (fun v_=>v_=v)):zbi_r a0 v:=Con_of1 Tryz.call188 Tryz.func188 [] (zbi_h a0) h
def zeh_R (v:Bool):A:=(.t (boo v))
def zeh_O (v:Bool):List (Nat×O):=[]
def zeh_e (Q:Bool→Prop)(v:Bool):Prop:=Rt (zeh_R) (zeh_O) v (Q v)
def zeh_r (a0:ByteArray)(v:Bool):Prop:=Con Tryz.prog 152 [(.t (str a0))] [] (fun r_ o_=>r_=zeh_R v∧o_=zeh_O v)
def zeh_w (a0:ByteArray)(Q_:Bool→Prop):Prop:=∃ r1:(List Int)×Bool,(zbi_r a0 r1)∧(Br r1.2 (Br ((a0.size:Int)==11) (∃ c2:Int,StrG a0 0 c2 (Br (decide (c2≥65)) (∃ c3:Int,StrG a0 1 c3 (zeh_e Q_ (decide (c3≥65)))) (zeh_e Q_ false))) (zeh_e Q_ false)) (zeh_e Q_ false))
def zeh_h (a0:ByteArray):HT Bool := .ex ((List Int)×Bool) fun r1 => .op 1 1 (.call [] (.tup [(.t (.sl 1 ((r1.1:List Int).map eN))),(.t (boo r1.2))]) []) (.bo 2 1 (.bo 2 6 (.ex (Int) fun c2 => .op 2 8 (.row (0:Int).toNat [.v (.int .u8 c2)]) (.bo 2 11 (.ex (Int) fun c3 => .op 2 13 (.row (1:Int).toNat [.v (.int .u8 c3)]) (.fin [] [] (decide (c3≥65)))) (.fin [] [] false))) (.fin [] [] false)) (.fin [] [] false))
theorem zeh_of {a0 v} (h:zeh_w a0 (fun v_=>v_=v)):zeh_r a0 v:=Con_of1 Tryz.call152 Tryz.func152 [] (zeh_h a0) h
def zci_s0 (r1:(List Int)×Bool)(s0_0:Int)(s0_1:Int):St:=mkSt [(3,(.t (.sl 1 ((r1.1:List Int).map eN)))),(4,(.t (boo r1.2))),(5,(.t (i64 s0_0))),(6,(.t (i64 s0_1)))] [] []
def zci_q0_0 (r1:(List Int)×Bool)(y:Int):St:=mkSt [(4,(.t (boo r1.2))),(5,(.t (i64 y)))] [] []
def zci_x0_0 (r1:(List Int)×Bool)(Q:Int→Prop)(y:Int):Prop:=Lf (.exit 0) (zci_q0_0 r1) y (Q y)
def zci_L0 (r1:(List Int)×Bool)(Q0_:Int→Prop)(s0_0:Int)(s0_1:Int):Prop:=LW Tryz.prog 45 (loopAt Tryz.f153 0) (Outs.K (.one (.exit 0) [.keep [4,5] []] (zci_q0_0 r1) Q0_)) (zci_s0 r1 s0_0 s0_1)
def zci_w0 (r1:(List Int)×Bool)(X_:Int→Int→Prop)(Q0_:Int→Prop)(s0_0:Int)(s0_1:Int):Prop:=Br (decide (s0_1<(lenM eN r1.1))) (Num .i64 ((lenM eN r1.1)-1) (Num .i64 (((lenM eN r1.1)-1)-s0_1) (∃ xa1:Int,Got eN r1.1 (((lenM eN r1.1)-1)-s0_1) xa1 (Rem' .i64 s0_1 2 (Br ((s0_1%2)==1) (Num .i64 (2*xa1) (Quo' .i64 (2*xa1) 10 (Num .i64 (s0_0+((2*xa1)/10)) (Rem' .i64 (2*xa1) 10 (Num .i64 ((s0_0+((2*xa1)/10))+((2*xa1)%10)) (Num .i64 (s0_1+1) (X_ ((s0_0+((2*xa1)/10))+((2*xa1)%10)) (s0_1+1)))))))) (Quo' .i64 xa1 10 (Num .i64 (s0_0+(xa1/10)) (Rem' .i64 xa1 10 (Num .i64 ((s0_0+(xa1/10))+(xa1%10)) (Num .i64 (s0_1+1) (X_ ((s0_0+(xa1/10))+(xa1%10)) (s0_1+1)))))))))))) (zci_x0_0 r1 Q0_ s0_0)
def zci_h0 (r1:(List Int)×Bool)(s0_0:Int)(s0_1:Int):HT Int := .both 16 (.op 6 3 (.nw) (.op 6 5 (.nw) (.ex (Int) fun xa1 => .op 6 6 (.row ((((lenM eN r1.1)-1)-s0_1):Int).toNat (eN xa1)) (.op 7 1 (.nw) (.both 29 (.op 8 1 (.nw) (.op 9 2 (.nw) (.op 9 3 (.nw) (.op 9 5 (.nw) (.op 9 6 (.nw) (.op 5 1 (.nw) (.round [.keep [3,4,5,6] []]))))))) (.op 9 2 (.nw) (.op 9 3 (.nw) (.op 9 5 (.nw) (.op 9 6 (.nw) (.op 5 1 (.nw) (.round [.keep [3,4,5,6] []]))))))))))) (.ret [.keep [4,5] []] s0_0)
theorem zci_l0 {r1 Q0_ s0_0 s0_1} (h:zci_w0 r1 (zci_L0 r1 Q0_) Q0_ s0_0 s0_1):zci_L0 r1 Q0_ s0_0 s0_1:=LW_runT _ (zci_h0 r1 s0_0 s0_1) h (by kernel_rfl)
def zci_R (v:Bool):A:=(.t (boo v))
def zci_O (v:Bool):List (Nat×O):=[]
def zci_e (Q:Bool→Prop)(v:Bool):Prop:=Rt (zci_R) (zci_O) v (Q v)
def zci_r (a0:ByteArray)(v:Bool):Prop:=Con Tryz.prog 153 [(.t (str a0))] [] (fun r_ o_=>r_=zci_R v∧o_=zci_O v)
def zci_w (a0:ByteArray)(Q_:Bool→Prop):Prop:=∃ r1:(List Int)×Bool,(zbi_r a0 r1)∧(zci_L0 r1 (fun (y2:Int)=>Br r1.2 (Rem' .i64 y2 10 (zci_e Q_ ((y2%10)==0))) (zci_e Q_ false)) 0 0)
def zci_h (a0:ByteArray):HT Bool := .ex ((List Int)×Bool) fun r1 => .op 1 1 (.call [] (.tup [(.t (.sl 1 ((r1.1:List Int).map eN))),(.t (boo r1.2))]) []) (.loop [.keep [3,4,5,6] []] (.out (Int) (.exit 0) [.keep [4,5] []] (zci_q0_0 r1) (fun y2 => .bo 10 1 (.op 10 3 (.nw) (.fin [] [] ((y2%10)==0))) (.fin [] [] false)) (.nil)))
theorem zci_of {a0 v} (h:zci_w a0 (fun v_=>v_=v)):zci_r a0 v:=Con_of1 Tryz.call153 Tryz.func153 [] (zci_h a0) h
def zdy_R (v:Int):A:=(.t (i64 v))
def zdy_O (v:Int):List (Nat×O):=[]
def zdy_e (Q:Int→Prop)(v:Int):Prop:=Rt (zdy_R) (zdy_O) v (Q v)
def zdy_r (a0:ByteArray)(v:Int):Prop:=Con Tryz.prog 100 [(.t (str a0))] [] (fun r_ o_=>r_=zdy_R v∧o_=zdy_O v)
def zdy_w (a0:ByteArray)(Q_:Int→Prop):Prop:=Br ((a0.size:Int) != 12) (zdy_e Q_ 11) (∃ c1:Int,StrG a0 11 c1 (Br (decide (c1<48)) (zdy_e Q_ 11) (StrG a0 11 c1 (Br (decide (c1>57)) (zdy_e Q_ 11) (CutSh a0 11 (∃ r2:Bool,(zeh_r (a0.extract 0 ((11:Int).toNat)) r2)∧(Br (!r2) (zdy_e Q_ 11) (∃ r3:Bool,(zci_r a0 r3)∧(Br (!r3) (zdy_e Q_ 12) (zdy_e Q_ 0))))))))))
def zdy_h (a0:ByteArray):HT Int := .bo 1 3 (.fin [] [] 11) (.ex (Int) fun c1 => .op 1 5 (.row (11:Int).toNat [.v (.int .u8 c1)]) (.bo 1 8 (.fin [] [] 11) (.op 1 10 (.row (11:Int).toNat [.v (.int .u8 c1)]) (.bo 1 13 (.fin [] [] 11) (.op 1 15 (.cut 0 (11:Int).toNat) (.ex (Bool) fun r2 => .op 1 16 (.call [] (.t (boo r2)) []) (.both 21 (.fin [] [] 11) (.ex (Bool) fun r3 => .op 3 1 (.call [] (.t (boo r3)) []) (.both 24 (.fin [] [] 12) (.fin [] [] 0))))))))))
theorem zdy_of {a0 v} (h:zdy_w a0 (fun v_=>v_=v)):zdy_r a0 v:=Con_of1 Tryz.call100 Tryz.func100 [] (zdy_h a0) h
def zdm_R (v:Int):A:=(.t (i64 v))
def zdm_O (v:Int):List (Nat×O):=[]
def zdm_e (Q:Int→Prop)(v:Int):Prop:=Rt (zdm_R) (zdm_O) v (Q v)
def zdm_r (a0:zag)(v:Int):Prop:=Con Tryz.prog 55 [(.agg [(.t (str a0.ISIN)),(.t (i64 a0.Issuer)),(.t (i64 a0.Rating)),(.t (i64 a0.Maturity)),(.t (str a0.Currency))])] [] (fun r_ o_=>r_=zdm_R v∧o_=zdm_O v)
def zdm_w (a0:zag)(Q_:Int→Prop):Prop:=∃ r1:Int,(zdy_r a0.ISIN r1)∧(Br (r1 != 0) (∃ r2:Int,(zdy_r a0.ISIN r2)∧(zdm_e Q_ r2)) (∃ r2:Bool,(zbg_r a0.Currency r2)∧(Br (!r2) (zdm_e Q_ 11) (Br (decide (a0.Issuer<0)) (zdm_e Q_ 1) (Br (decide (a0.Issuer>9999)) (zdm_e Q_ 1) (Br (decide (a0.Rating<0)) (zdm_e Q_ 1) (Br (decide (a0.Rating>20)) (zdm_e Q_ 1) (Br (decide (a0.Maturity<0)) (zdm_e Q_ 10) (Br (decide (a0.Maturity>200000)) (zdm_e Q_ 10) (zdm_e Q_ 0))))))))))
def zdm_h (a0:zag):HT Int := .ex (Int) fun r1 => .op 1 2 (.call [] (.t (i64 r1)) []) (.both 6 (.ex (Int) fun r2 => .op 2 2 (.call [] (.t (i64 r2)) []) (.fin [] [] r2)) (.ex (Bool) fun r2 => .op 3 2 (.call [] (.t (boo r2)) []) (.both 13 (.fin [] [] 11) (.bo 5 3 (.fin [] [] 1) (.bo 5 8 (.fin [] [] 1) (.bo 5 13 (.fin [] [] 1) (.both 31 (.fin [] [] 1) (.bo 7 3 (.fin [] [] 10) (.both 39 (.fin [] [] 10) (.fin [] [] 0))))))))))
theorem zdm_of {a0 v} (h:zdm_w a0 (fun v_=>v_=v)):zdm_r a0 v:=Con_of1 Tryz.call55 Tryz.func55 [] (zdm_h a0) h
def zcc_s0 (a0:(List zae))(a1:zag)(s0_0:Bool)(s0_1:Int)(s0_2:(List zae)):St:=mkSt [(0,(.t (.sl 6 ((a0:List zae).map zae.enc)))),(3,(.at 3 0)),(6,(.ref 55)),(7,(.t (boo s0_0))),(8,(.t (i64 s0_1)))] [(3,(.box [(.t (str a1.ISIN)),(.t (i64 a1.Issuer)),(.t (i64 a1.Rating)),(.t (i64 a1.Maturity)),(.t (str a1.Currency))])),(55,(.row 6 ((s0_2:List zae).map zae.enc)))] []
def zcc_q0_0 (a0:(List zae))(a1:zag)(y:Bool×(List zae)):St:=mkSt [(3,(.at 3 0)),(6,(.ref 55)),(7,(.t (boo y.1)))] [(3,(.box [(.t (str a1.ISIN)),(.t (i64 a1.Issuer)),(.t (i64 a1.Rating)),(.t (i64 a1.Maturity)),(.t (str a1.Currency))])),(55,(.row 6 ((y.2:List zae).map zae.enc)))] []
def zcc_x0_0 (a0:(List zae))(a1:zag)(Q:(Bool×(List zae))→Prop)(y:Bool×(List zae)):Prop:=Lf (.exit 0) (zcc_q0_0 a0 a1) y (Q y)
def zcc_L0 (a0:(List zae))(a1:zag)(Q0_:(Bool×(List zae))→Prop)(s0_0:Bool)(s0_1:Int)(s0_2:(List zae)):Prop:=LW Tryz.prog 64 (loopAt Tryz.f26 0) (Outs.K (.one (.exit 0) [.keep [3,6,7] [3,55]] (zcc_q0_0 a0 a1) Q0_)) (zcc_s0 a0 a1 s0_0 s0_1 s0_2)
def zcc_w0 (a0:(List zae))(a1:zag)(X_:Bool→Int→(List zae)→Prop)(Q0_:(Bool×(List zae))→Prop)(s0_0:Bool)(s0_1:Int)(s0_2:(List zae)):Prop:=Br (decide (s0_1<(lenM zae.enc a0))) (Br (!s0_0) (∃ xa1:zae,Got zae.enc a0 s0_1 xa1 (Br (!strLe xa1.A.ISIN a1.ISIN) (App2 64 zae.enc s0_2 [(⟨a1,0⟩:zae)] (Got zae.enc a0 s0_1 xa1 (App2 64 zae.enc (s0_2++[(⟨a1,0⟩:zae)]) [xa1] (Num .i64 (s0_1+1) (X_ true (s0_1+1) ((s0_2++[(⟨a1,0⟩:zae)])++[xa1])))))) (Got zae.enc a0 s0_1 xa1 (App2 64 zae.enc s0_2 [xa1] (Num .i64 (s0_1+1) (X_ s0_0 (s0_1+1) (s0_2++[xa1]))))))) (∃ xa1:zae,Got zae.enc a0 s0_1 xa1 (App2 64 zae.enc s0_2 [xa1] (Num .i64 (s0_1+1) (X_ s0_0 (s0_1+1) (s0_2++[xa1])))))) (zcc_x0_0 a0 a1 Q0_ (s0_0,s0_2))
def zcc_h0 (a0:(List zae))(a1:zag)(s0_0:Bool)(s0_1:Int)(s0_2:(List zae)):HT (Bool×(List zae)) := .both 28 (.bo 12 2 (.ex (zae) fun xa1 => .op 12 5 (.row (s0_1:Int).toNat (zae.enc xa1)) (.both 43 (.op 13 4 (.no) (.rw 48 (((s0_2++[(⟨a1,0⟩:zae)]):List zae).map zae.enc) (.op 15 3 (.row (s0_1:Int).toNat (zae.enc xa1)) (.op 15 6 (.no) (.rw 55 ((((s0_2++[(⟨a1,0⟩:zae)])++[xa1]):List zae).map zae.enc) (.op 11 1 (.nw) (.round [.keep [0,3,6,7,8] [3,55]]))))))) (.op 15 3 (.row (s0_1:Int).toNat (zae.enc xa1)) (.op 15 6 (.no) (.rw 55 (((s0_2++[xa1]):List zae).map zae.enc) (.op 11 1 (.nw) (.round [.keep [0,3,6,7,8] [3,55]]))))))) (.ex (zae) fun xa1 => .op 15 3 (.row (s0_1:Int).toNat (zae.enc xa1)) (.op 15 6 (.no) (.rw 55 (((s0_2++[xa1]):List zae).map zae.enc) (.op 11 1 (.nw) (.round [.keep [0,3,6,7,8] [3,55]])))))) (.ret [.keep [3,6,7] [3,55]] (s0_0,s0_2))
theorem zcc_l0 {a0 a1 Q0_ s0_0 s0_1 s0_2} (h:zcc_w0 a0 a1 (zcc_L0 a0 a1 Q0_) Q0_ s0_0 s0_1 s0_2):zcc_L0 a0 a1 Q0_ s0_0 s0_1 s0_2:=LW_runT _ (zcc_h0 a0 a1 s0_0 s0_1 s0_2) h (by kernel_rfl)
def zcc_R (v:(List zae)×Int):A:=(.tup [(.t (.sl 6 ((v.1:List zae).map zae.enc))),(.t (i64 v.2))])
def zcc_O (v:(List zae)×Int):List (Nat×O):=[]
def zcc_e (Q:((List zae)×Int)→Prop)(v:(List zae)×Int):Prop:=Rt (zcc_R) (zcc_O) v (Q v)
def zcc_r (a0:(List zae))(a1:zag)(v:(List zae)×Int):Prop:=Con Tryz.prog 26 [(.t (.sl 6 ((a0:List zae).map zae.enc))),(.agg [(.t (str a1.ISIN)),(.t (i64 a1.Issuer)),(.t (i64 a1.Rating)),(.t (i64 a1.Maturity)),(.t (str a1.Currency))])] [] (fun r_ o_=>r_=zcc_R v∧o_=zcc_O v)
def zcc_w (a0:(List zae))(a1:zag)(Q_:((List zae)×Int)→Prop):Prop:=∃ r1:Int,(zdm_r a1 r1)∧(Br (r1 != 0) (∃ r2:Int,(zdm_r a1 r2)∧(zcc_e Q_ (a0,r2))) (∃ r2:Int,(zbv_r a0 a1.ISIN r2)∧(Br (decide (r2≥0)) (zcc_e Q_ (a0,7)) (Br (decide ((lenM zae.enc a0)≥64)) (zcc_e Q_ (a0,18)) (zcc_L0 a0 a1 (fun (y3:Bool×(List zae))=>Br (!y3.1) (App2 64 zae.enc y3.2 [(⟨a1,0⟩:zae)] (zcc_e Q_ ((y3.2++[(⟨a1,0⟩:zae)]),0))) (zcc_e Q_ (y3.2,0))) false 0 [])))))
def zcc_h (a0:(List zae))(a1:zag):HT ((List zae)×Int) := .ex (Int) fun r1 => .op 1 1 (.call [] (.t (i64 r1)) []) (.both 11 (.ex (Int) fun r2 => .op 2 2 (.call [] (.t (i64 r2)) []) (.fin [] [] (a0,r2))) (.ex (Int) fun r2 => .op 3 3 (.call [] (.t (i64 r2)) []) (.both 19 (.fin [] [] (a0,7)) (.both 23 (.fin [] [] (a0,18)) (.loop [.own 6 55 6, .keep [0,3,6,7,8] [3,55]] (.out (Bool×(List zae)) (.exit 0) [.keep [3,6,7] [3,55]] (zcc_q0_0 a0 a1) (fun y3 => .both 57 (.op 17 4 (.no) (.rw 62 (((y3.2++[(⟨a1,0⟩:zae)]):List zae).map zae.enc) (.fin [] [] ((y3.2++[(⟨a1,0⟩:zae)]),0)))) (.fin [] [] (y3.2,0))) (.nil)))))))
theorem zcc_of {a0 a1 v} (h:zcc_w a0 a1 (fun v_=>v_=v)):zcc_r a0 a1 v:=Con_of1 Tryz.call26 Tryz.func26 [] (zcc_h a0 a1) h
def zbe_s1 (a1:(List zbo))(a0:zat)(s1_0:Int)(s1_1:(List Int)):St:=mkSt [(0,(.at 700 0)),(1,(.t (.sl 2 ((a1:List zbo).map zbo.enc)))),(50,(.t (.sl 2 ((a1:List zbo).map zbo.enc)))),(51,(.t (i64 (lenM zbo.enc a1)))),(52,(.t (i64 s1_0)))] [(700,(.box [(.ref 701),(.ref 702),(.t (boo a0.made))])),(701,(.row 5 ((a0.l:List zag).map zag.enc))),(702,(.row 1 ((s1_1:List Int).map eN)))] [700]
def zbe_q1_0 (a1:(List zbo))(a0:zat)(y:(List Int)):St:=mkSt [(1,(.t (.sl 2 ((a1:List zbo).map zbo.enc))))] [(700,(.box [(.ref 701),(.ref 702),(.t (boo a0.made))])),(701,(.row 5 ((a0.l:List zag).map zag.enc))),(702,(.row 1 ((y:List Int).map eN)))] [700]
def zbe_x1_0 (a1:(List zbo))(a0:zat)(Q:(List Int)→Prop)(y:(List Int)):Prop:=Lf (.exit 2) (zbe_q1_0 a1 a0) y (Q y)
def zbe_L1 (a1:(List zbo))(a0:zat)(Q0_:(List Int)→Prop)(s1_0:Int)(s1_1:(List Int)):Prop:=LW Tryz.prog 74 (loopAt Tryz.f27 1) (Outs.K (.one (.exit 2) [.keep [1] [700,701,702]] (zbe_q1_0 a1 a0) Q0_)) (zbe_s1 a1 a0 s1_0 s1_1)
def zbe_w1 (a1:(List zbo))(a0:zat)(X_:Int→(List Int)→Prop)(Q0_:(List Int)→Prop)(s1_0:Int)(s1_1:(List Int)):Prop:=Br (decide (s1_0<(lenM zbo.enc a1))) (∃ xb1:zbo,Got zbo.enc a1 s1_0 xb1 (∃ rb2:Int×Bool,(zes_r (⟨a0.l,s1_1,a0.made⟩:zat) xb1.ISIN rb2)∧(InL eN s1_1 rb2.1 (∃ xb3:Int,EltS eN s1_1 rb2.1 xb3 xb1.Price (Num .i64 (s1_0+1) (X_ (s1_0+1) (s1_1.set (rb2.1:Int).toNat xb1.Price))))))) (zbe_x1_0 a1 a0 Q0_ s1_1)
def zbe_h1 (a1:(List zbo))(a0:zat)(s1_0:Int)(s1_1:(List Int)):HT (List Int) := .both 53 (.ex (zbo) fun xb1 => .op 14 0 (.row (s1_0:Int).toNat (zbo.enc xb1)) (.ex (Int×Bool) fun rb2 => .op 15 3 (.callR [] [700,701,702] [700,701,702] (.tup [(.t (i64 rb2.1)),(.t (boo rb2.2))]) []) (.op 16 7 (.ix (rb2.1:Int).toNat) (.ex (Int) fun xb3 => .op 16 8 (.row (rb2.1:Int).toNat (eN xb3)) (.rw 702 (((s1_1.set (rb2.1:Int).toNat xb1.Price):List Int).map eN) (.op 17 0 (.nw) (.round [.keep [0,1,50,51,52] [700,701,702]]))))))) (.ret [.keep [1] [700,701,702]] s1_1)
theorem zbe_l1 {a1 a0 Q0_ s1_0 s1_1} (h:zbe_w1 a1 a0 (zbe_L1 a1 a0 Q0_) Q0_ s1_0 s1_1):zbe_L1 a1 a0 Q0_ s1_0 s1_1:=LW_runT _ (zbe_h1 a1 a0 s1_0 s1_1) h (by kernel_rfl)
def zbe_s0 (a1:(List zbo))(a0:zat)(s0_0:Int):St:=mkSt [(0,(.at 700 0)),(1,(.t (.sl 2 ((a1:List zbo).map zbo.enc)))),(23,(.t (.sl 2 ((a1:List zbo).map zbo.enc)))),(24,(.t (i64 (lenM zbo.enc a1)))),(25,(.t (i64 s0_0)))] [(700,(.box [(.ref 701),(.ref 702),(.t (boo a0.made))])),(701,(.row 5 ((a0.l:List zag).map zag.enc))),(702,(.row 1 ((a0.prices:List Int).map eN)))] [700]
def zbe_q0_0 (a1:(List zbo))(a0:zat)(y:Int×Int):St:=mkSt [(4,(.t (i64 y.1))),(5,(.t (i64 y.2)))] [(700,(.box [(.ref 701),(.ref 702),(.t (boo a0.made))])),(701,(.row 5 ((a0.l:List zag).map zag.enc))),(702,(.row 1 ((a0.prices:List Int).map eN)))] [700]
def zbe_x0_0 (a1:(List zbo))(a0:zat)(Q:(Int×Int)→Prop)(y:Int×Int):Prop:=Lf .ret (zbe_q0_0 a1 a0) y (Q y)
def zbe_q0_1 (a1:(List zbo))(a0:zat)(y:Unit):St:=mkSt [(0,(.at 700 0)),(1,(.t (.sl 2 ((a1:List zbo).map zbo.enc))))] [(700,(.box [(.ref 701),(.ref 702),(.t (boo a0.made))])),(701,(.row 5 ((a0.l:List zag).map zag.enc))),(702,(.row 1 ((a0.prices:List Int).map eN)))] [700]
def zbe_x0_1 (a1:(List zbo))(a0:zat)(Q:Unit→Prop)(y:Unit):Prop:=Lf (.exit 0) (zbe_q0_1 a1 a0) y (Q y)
def zbe_L0 (a1:(List zbo))(a0:zat)(Q0_:(Int×Int)→Prop)(Q1_:Unit→Prop)(s0_0:Int):Prop:=LW Tryz.prog 74 (loopAt Tryz.f27 0) (Outs.K (.cons .ret [.keep [4,5] [700,701,702]] (zbe_q0_0 a1 a0) Q0_ (.one (.exit 0) [.keep [0,1] [700,701,702]] (zbe_q0_1 a1 a0) Q1_))) (zbe_s0 a1 a0 s0_0)
def zbe_w0 (a1:(List zbo))(a0:zat)(X_:Int→Prop)(Q0_:(Int×Int)→Prop)(Q1_:Unit→Prop)(s0_0:Int):Prop:=Br (decide (s0_0<(lenM zbo.enc a1))) (∃ xa1:zbo,Got zbo.enc a1 s0_0 xa1 (∃ ra2:Int×Bool,(zes_r a0 xa1.ISIN ra2)∧(Br (!ra2.2) (zbe_x0_0 a1 a0 Q0_ (s0_0,21)) (Br (decide (xa1.Price<1)) (zbe_x0_0 a1 a0 Q0_ (s0_0,31)) (Br (decide (xa1.Price>4294967296)) (zbe_x0_0 a1 a0 Q0_ (s0_0,31)) (Num .i64 (s0_0+1) (X_ (s0_0+1)))))))) (zbe_x0_1 a1 a0 Q1_ ())
def zbe_h0 (a1:(List zbo))(a0:zat)(s0_0:Int):HT ((Int×Int) ⊕ Unit) := .both 26 (.ex (zbo) fun xa1 => .op 5 1 (.row (s0_0:Int).toNat (zbo.enc xa1)) (.ex (Int×Bool) fun ra2 => .op 6 3 (.callR [] [700,701,702] [700,701,702] (.tup [(.t (i64 ra2.1)),(.t (boo ra2.2))]) []) (.both 38 (.ret [.keep [4,5] [700,701,702]] (.inl (s0_0,21))) (.bo 9 3 (.ret [.keep [4,5] [700,701,702]] (.inl (s0_0,31))) (.both 47 (.ret [.keep [4,5] [700,701,702]] (.inl (s0_0,31))) (.op 11 0 (.nw) (.round [.keep [0,1,23,24,25] [700,701,702]]))))))) (.ret [.keep [0,1] [700,701,702]] (.inr ()))
theorem zbe_l0 {a1 a0 Q0_ Q1_ s0_0} (h:zbe_w0 a1 a0 (zbe_L0 a1 a0 Q0_ Q1_) Q0_ Q1_ s0_0):zbe_L0 a1 a0 Q0_ Q1_ s0_0:=LW_runT _ (zbe_h0 a1 a0 s0_0) h (by kernel_rfl)
def zbe_R (v:Int×Int×zat):A:=(.tup [(.t (i64 v.1)),(.t (i64 v.2.1))])
def zbe_O (v:Int×Int×zat):List (Nat×O):=[(700,(.box [(.ref 1701),(.ref 1702),(.t (boo v.2.2.made))])),(1701,(.row 5 ((v.2.2.l:List zag).map zag.enc))),(1702,(.row 1 ((v.2.2.prices:List Int).map eN)))]
def zbe_e (Q:(Int×Int×zat)→Prop)(v:Int×Int×zat):Prop:=Rt (zbe_R) (zbe_O) v (Q v)
def zbe_r (a0:zat)(a1:(List zbo))(v:Int×Int×zat):Prop:=Con Tryz.prog 27 [(.at 700 0),(.t (.sl 2 ((a1:List zbo).map zbo.enc)))] [(700,(.box [(.ref 1701),(.ref 1702),(.t (boo a0.made))])),(1701,(.row 5 ((a0.l:List zag).map zag.enc))),(1702,(.row 1 ((a0.prices:List Int).map eN)))] (fun r_ o_=>r_=zbe_R v∧o_=zbe_O v)
def zbe_w (a0:zat)(a1:(List zbo))(Q_:(Int×Int×zat)→Prop):Prop:=Br (!a0.made) (zbe_e Q_ (0,3,a0)) (zbe_L0 a1 a0 (fun (y1:Int×Int)=>zbe_e Q_ (y1.1,y1.2,a0)) (fun (y1:Unit)=>zbe_L1 a1 a0 (fun (y2:(List Int))=>zbe_e Q_ ((lenM zbo.enc a1),0,(⟨a0.l,y2,a0.made⟩:zat))) 0 a0.prices) 0)
def zbe_h (a0:zat)(a1:(List zbo)):HT (Int×Int×zat) := .both 22 (.fin [] [] (0,3,a0)) (.loop [.ren 1701 701, .ren 1702 702, .keep [0,1,23,24,25] [700,701,702]] (.out (Int×Int) .ret [.keep [4,5] [700,701,702]] (zbe_q0_0 a1 a0) (fun y1 => .fin [.ren 701 1701, .ren 702 1702] [] (y1.1,y1.2,a0)) (.out (Unit) (.exit 0) [.keep [0,1] [700,701,702]] (zbe_q0_1 a1 a0) (fun y1 => .loop [.keep [0,1,50,51,52] [700,701,702]] (.out ((List Int)) (.exit 2) [.keep [1] [700,701,702]] (zbe_q1_0 a1 a0) (fun y2 => .fin [.ren 701 1701, .ren 702 1702] [] ((lenM zbo.enc a1),0,(⟨a0.l,y2,a0.made⟩:zat))) (.nil))) (.nil))))
theorem zbe_of {a0 a1 v} (h:zbe_w a0 a1 (fun v_=>v_=v)):zbe_r a0 a1 v:=Con_of1 Tryz.call27 Tryz.func27 [700,1701,1702] (zbe_h a0 a1) h
def zca_s0 (a0:(List zae))(a1:(List zbo))(s0_0:Int)(s0_1:(List zae)):St:=mkSt [(0,(.t (.sl 6 ((a0:List zae).map zae.enc)))),(1,(.t (.sl 2 ((a1:List zbo).map zbo.enc)))),(7,(.ref 12)),(8,(.t (i64 s0_0)))] [(12,(.row 6 ((s0_1:List zae).map zae.enc)))] []
def zca_q0_0 (a0:(List zae))(a1:(List zbo))(y:Int×Int):St:=mkSt [(4,(.t (.sl 6 ((a0:List zae).map zae.enc)))),(5,(.t (i64 y.1))),(6,(.t (i64 y.2)))] [] []
def zca_x0_0 (a0:(List zae))(a1:(List zbo))(Q:(Int×Int)→Prop)(y:Int×Int):Prop:=Lf .ret (zca_q0_0 a0 a1) y (Q y)
def zca_q0_1 (a0:(List zae))(a1:(List zbo))(y:(List zae)):St:=mkSt [(1,(.t (.sl 2 ((a1:List zbo).map zbo.enc)))),(7,(.ref 12))] [(12,(.row 6 ((y:List zae).map zae.enc)))] []
def zca_x0_1 (a0:(List zae))(a1:(List zbo))(Q:(List zae)→Prop)(y:(List zae)):Prop:=Lf (.exit 0) (zca_q0_1 a0 a1) y (Q y)
def zca_L0 (a0:(List zae))(a1:(List zbo))(Q0_:(Int×Int)→Prop)(Q1_:(List zae)→Prop)(s0_0:Int)(s0_1:(List zae)):Prop:=LW Tryz.prog 58 (loopAt Tryz.f28 0) (Outs.K (.cons .ret [.keep [4,5,6] []] (zca_q0_0 a0 a1) Q0_ (.one (.exit 0) [.keep [1,7] [12]] (zca_q0_1 a0 a1) Q1_))) (zca_s0 a0 a1 s0_0 s0_1)
def zca_w0 (a0:(List zae))(a1:(List zbo))(X_:Int→(List zae)→Prop)(Q0_:(Int×Int)→Prop)(Q1_:(List zae)→Prop)(s0_0:Int)(s0_1:(List zae)):Prop:=Br (decide (s0_0<(lenM zbo.enc a1))) (∃ xa1:zbo,Got zbo.enc a1 s0_0 xa1 (∃ ra2:Int,(zbv_r a0 xa1.ISIN ra2)∧(Br (decide (ra2<0)) (zca_x0_0 a0 a1 Q0_ (s0_0,21)) (Got zbo.enc a1 s0_0 xa1 (Br (decide (xa1.Price<1)) (zca_x0_0 a0 a1 Q0_ (s0_0,31)) (Got zbo.enc a1 s0_0 xa1 (Br (decide (xa1.Price>4294967296)) (zca_x0_0 a0 a1 Q0_ (s0_0,31)) (Got zbo.enc a1 s0_0 xa1 (InL zae.enc s0_1 ra2 (∃ xa3:zae,EltS zae.enc s0_1 ra2 xa3 (⟨xa3.A,xa1.Price⟩:zae) (Num .i64 (s0_0+1) (X_ (s0_0+1) (s0_1.set (ra2:Int).toNat (⟨xa3.A,xa1.Price⟩:zae)))))))))))))) (zca_x0_1 a0 a1 Q1_ s0_1)
def zca_h0 (a0:(List zae))(a1:(List zbo))(s0_0:Int)(s0_1:(List zae)):HT ((Int×Int) ⊕ (List zae)) := .both 16 (.ex (zbo) fun xa1 => .op 5 3 (.row (s0_0:Int).toNat (zbo.enc xa1)) (.ex (Int) fun ra2 => .op 5 6 (.call [] (.t (i64 ra2)) []) (.both 27 (.ret [.keep [4,5,6] []] (.inl (s0_0,21))) (.op 8 2 (.row (s0_0:Int).toNat (zbo.enc xa1)) (.bo 8 6 (.ret [.keep [4,5,6] []] (.inl (s0_0,31))) (.op 8 9 (.row (s0_0:Int).toNat (zbo.enc xa1)) (.both 43 (.ret [.keep [4,5,6] []] (.inl (s0_0,31))) (.op 10 4 (.row (s0_0:Int).toNat (zbo.enc xa1)) (.op 10 7 (.ix (ra2:Int).toNat) (.ex (zae) fun xa3 => .op 10 9 (.row (ra2:Int).toNat (zae.enc xa3)) (.rw 12 (((s0_1.set (ra2:Int).toNat (⟨xa3.A,xa1.Price⟩:zae)):List zae).map zae.enc) (.op 4 1 (.nw) (.round [.keep [0,1,7,8] [12]]))))))))))))) (.ret [.keep [1,7] [12]] (.inr s0_1))
theorem zca_l0 {a0 a1 Q0_ Q1_ s0_0 s0_1} (h:zca_w0 a0 a1 (zca_L0 a0 a1 Q0_ Q1_) Q0_ Q1_ s0_0 s0_1):zca_L0 a0 a1 Q0_ Q1_ s0_0 s0_1:=LW_runT _ (zca_h0 a0 a1 s0_0 s0_1) h (by kernel_rfl)
def zca_R (v:(List zae)×Int×Int):A:=(.tup [(.t (.sl 6 ((v.1:List zae).map zae.enc))),(.t (i64 v.2.1)),(.t (i64 v.2.2))])
def zca_O (v:(List zae)×Int×Int):List (Nat×O):=[]
def zca_e (Q:((List zae)×Int×Int)→Prop)(v:(List zae)×Int×Int):Prop:=Rt (zca_R) (zca_O) v (Q v)
def zca_r (a0:(List zae))(a1:(List zbo))(v:(List zae)×Int×Int):Prop:=Con Tryz.prog 28 [(.t (.sl 6 ((a0:List zae).map zae.enc))),(.t (.sl 2 ((a1:List zbo).map zbo.enc)))] [] (fun r_ o_=>r_=zca_R v∧o_=zca_O v)
def zca_w (a0:(List zae))(a1:(List zbo))(Q_:((List zae)×Int×Int)→Prop):Prop:=ApZ 64 zae.enc a0 (zca_L0 a0 a1 (fun (y1:Int×Int)=>zca_e Q_ (a0,y1.1,y1.2)) (fun (y1:(List zae))=>zca_e Q_ (y1,(lenM zbo.enc a1),0)) 0 a0)
def zca_h (a0:(List zae))(a1:(List zbo)):HT ((List zae)×Int×Int) := .op 1 2 (.no) (.loop [.keep [0,1,7,8] [12]] (.out (Int×Int) .ret [.keep [4,5,6] []] (zca_q0_0 a0 a1) (fun y1 => .fin [] [] (a0,y1.1,y1.2)) (.out ((List zae)) (.exit 0) [.keep [1,7] [12]] (zca_q0_1 a0 a1) (fun y1 => .fin [] [] (y1,(lenM zbo.enc a1),0)) (.nil))))
theorem zca_of {a0 a1 v} (h:zca_w a0 a1 (fun v_=>v_=v)):zca_r a0 a1 v:=Con_of1 Tryz.call28 Tryz.func28 [] (zca_h a0 a1) h
def zch_s0 (a0:zed)(s0_0:(List zae))(s0_1:Int)(s0_2:Bool)(s0_3:(List zag))(s0_4:(List Int)):St:=mkSt [(1,(.at 1 0)),(4,(.at 700 0)),(5,(.t (.sl 6 ((s0_0:List zae).map zae.enc)))),(6,(.t (i64 s0_1)))] [(1,(.box [(.t (.sl 5 ((a0.Known:List zag).map zag.enc))),(.t (.sl 2 ((a0.Prices:List zbo).map zbo.enc)))])),(700,(.box [(.ref 1701),(.ref 1702),(.t (boo s0_2))])),(1701,(.row 5 ((s0_3:List zag).map zag.enc))),(1702,(.row 1 ((s0_4:List Int).map eN)))] []
def zch_q0_0 (a0:zed)(y:(List zae)×Bool×(List zag)×(List Int)):St:=mkSt [(1,(.at 1 0)),(4,(.at 700 0)),(5,(.t (.sl 6 ((y.1:List zae).map zae.enc))))] [(1,(.box [(.t (.sl 5 ((a0.Known:List zag).map zag.enc))),(.t (.sl 2 ((a0.Prices:List zbo).map zbo.enc)))])),(700,(.box [(.ref 1701),(.ref 1702),(.t (boo y.2.1))])),(1701,(.row 5 ((y.2.2.1:List zag).map zag.enc))),(1702,(.row 1 ((y.2.2.2:List Int).map eN)))] []
def zch_x0_0 (a0:zed)(Q:((List zae)×Bool×(List zag)×(List Int))→Prop)(y:(List zae)×Bool×(List zag)×(List Int)):Prop:=Lf (.exit 0) (zch_q0_0 a0) y (Q y)
def zch_L0 (a0:zed)(Q0_:((List zae)×Bool×(List zag)×(List Int))→Prop)(s0_0:(List zae))(s0_1:Int)(s0_2:Bool)(s0_3:(List zag))(s0_4:(List Int)):Prop:=LW Tryz.prog 54 (loopAt Tryz.f8 0) (Outs.K (.one (.exit 0) [.keep [1,4,5] [1,700,1701,1702]] (zch_q0_0 a0) Q0_)) (zch_s0 a0 s0_0 s0_1 s0_2 s0_3 s0_4)
def zch_w0 (a0:zed)(X_:(List zae)→Int→Bool→(List zag)→(List Int)→Prop)(Q0_:((List zae)×Bool×(List zag)×(List Int))→Prop)(s0_0:(List zae))(s0_1:Int)(s0_2:Bool)(s0_3:(List zag))(s0_4:(List Int)):Prop:=Br (decide (s0_1<(lenM zag.enc a0.Known))) (Br (decide (s0_1<40)) (∃ xa1:zag,Got zag.enc a0.Known s0_1 xa1 (∃ ra2:Int×zat,(zeu_r (⟨s0_3,s0_4,s0_2⟩:zat) xa1 ra2)∧(Got zag.enc a0.Known s0_1 xa1 (∃ ra3:(List zae)×Int,(zcc_r s0_0 xa1 ra3)∧(Num .i64 (s0_1+1) (X_ ra3.1 (s0_1+1) ra2.2.made ra2.2.l ra2.2.prices)))))) (zch_x0_0 a0 Q0_ (s0_0,s0_2,s0_3,s0_4))) (zch_x0_0 a0 Q0_ (s0_0,s0_2,s0_3,s0_4))
def zch_h0 (a0:zed)(s0_0:(List zae))(s0_1:Int)(s0_2:Bool)(s0_3:(List zag))(s0_4:(List Int)):HT ((List zae)×Bool×(List zag)×(List Int)) := .bo 4 5 (.both 16 (.ex (zag) fun xa1 => .op 6 4 (.row (s0_1:Int).toNat (zag.enc xa1)) (.ex (Int×zat) fun ra2 => .op 6 6 (.call [700,1701,1702] (.t (i64 ra2.1)) [(700,(.box [(.ref 1701),(.ref 1702),(.t (boo ra2.2.made))])),(1701,(.row 5 ((ra2.2.l:List zag).map zag.enc))),(1702,(.row 1 ((ra2.2.prices:List Int).map eN)))]) (.op 7 4 (.row (s0_1:Int).toNat (zag.enc xa1)) (.ex ((List zae)×Int) fun ra3 => .op 7 6 (.call [] (.tup [(.t (.sl 6 ((ra3.1:List zae).map zae.enc))),(.t (i64 ra3.2))]) []) (.op 5 1 (.nw) (.round [.keep [1,4,5,6] [1,700,1701,1702]])))))) (.ret [.keep [1,4,5] [1,700,1701,1702]] (s0_0,s0_2,s0_3,s0_4))) (.ret [.keep [1,4,5] [1,700,1701,1702]] (s0_0,s0_2,s0_3,s0_4))
theorem zch_l0 {a0 Q0_ s0_0 s0_1 s0_2 s0_3 s0_4} (h:zch_w0 a0 (zch_L0 a0 Q0_) Q0_ s0_0 s0_1 s0_2 s0_3 s0_4):zch_L0 a0 Q0_ s0_0 s0_1 s0_2 s0_3 s0_4:=LW_runT _ (zch_h0 a0 s0_0 s0_1 s0_2 s0_3 s0_4) h (by kernel_rfl)
def zch_R (v:zat×(List zae)):A:=(.tup [(.at 700 0),(.t (.sl 6 ((v.2:List zae).map zae.enc)))])
def zch_O (v:zat×(List zae)):List (Nat×O):=[(700,(.box [(.ref 1701),(.ref 1702),(.t (boo v.1.made))])),(1701,(.row 5 ((v.1.l:List zag).map zag.enc))),(1702,(.row 1 ((v.1.prices:List Int).map eN)))]
def zch_e (Q:(zat×(List zae))→Prop)(v:zat×(List zae)):Prop:=Rt (zch_R) (zch_O) v (Q v)
def zch_r (a0:zed)(v:zat×(List zae)):Prop:=Con Tryz.prog 8 [(.agg [(.t (.sl 5 ((a0.Known:List zag).map zag.enc))),(.t (.sl 2 ((a0.Prices:List zbo).map zbo.enc)))])] [] (fun r_ o_=>r_=zch_R v∧o_=zch_O v)
def zch_w (a0:zed)(Q_:(zat×(List zae))→Prop):Prop:=∃ r1:zat,(zhb_r r1)∧(zch_L0 a0 (fun (y2:(List zae)×Bool×(List zag)×(List Int))=>Br (decide ((lenM zbo.enc a0.Prices)≤100)) (∃ r3:Int×Int×zat,(zbe_r (⟨y2.2.2.1,y2.2.2.2,y2.2.1⟩:zat) a0.Prices r3)∧(∃ r4:(List zae)×Int×Int,(zca_r y2.1 a0.Prices r4)∧(zch_e Q_ (r3.2.2,r4.1)))) (zch_e Q_ ((⟨y2.2.2.1,y2.2.2.2,y2.2.1⟩:zat),y2.1))) [] 0 r1.made r1.l r1.prices)
def zch_h (a0:zed):HT (zat×(List zae)) := .ex (zat) fun r1 => .op 1 0 (.call [] (.at 700 0) [(700,(.box [(.ref 1701),(.ref 1702),(.t (boo r1.made))])),(1701,(.row 5 ((r1.l:List zag).map zag.enc))),(1702,(.row 1 ((r1.prices:List Int).map eN)))]) (.loop [.nil 5 6, .keep [1,4,5,6] [1,700,1701,1702]] (.out ((List zae)×Bool×(List zag)×(List Int)) (.exit 0) [.keep [1,4,5] [1,700,1701,1702]] (zch_q0_0 a0) (fun y2 => .both 39 (.ex (Int×Int×zat) fun r3 => .op 9 3 (.call [700,1701,1702] (.tup [(.t (i64 r3.1)),(.t (i64 r3.2.1))]) [(700,(.box [(.ref 1701),(.ref 1702),(.t (boo r3.2.2.made))])),(1701,(.row 5 ((r3.2.2.l:List zag).map zag.enc))),(1702,(.row 1 ((r3.2.2.prices:List Int).map eN)))]) (.ex ((List zae)×Int×Int) fun r4 => .op 10 3 (.call [] (.tup [(.t (.sl 6 ((r4.1:List zae).map zae.enc))),(.t (i64 r4.2.1)),(.t (i64 r4.2.2))]) []) (.fin [] [] (r3.2.2,r4.1)))) (.fin [] [] ((⟨y2.2.2.1,y2.2.2.2,y2.2.1⟩:zat),y2.1))) (.nil)))
theorem zch_of {a0 v} (h:zch_w a0 (fun v_=>v_=v)):zch_r a0 v:=Con_of1 Tryz.call8 Tryz.func8 [700,1701,1702] (zch_h a0) h
def zfu_R (v:zcy):A:=(.agg [(.t (i64 v.Basket.ID)),(.t (i64 v.Basket.Version)),(.t (str v.Basket.Currency)),(.t (i64 v.Basket.Rating)),(.t (i64 v.Basket.Least)),(.t (i64 v.Basket.Most)),(.t (.sl 3 ((v.Basket.Cuts:List zbp).map zbp.enc))),(.t (i64 v.Basket.Issuer)),(.t (i64 v.Basket.Asset)),(.t (.sl 1 ((v.Basket.Barred:List Int).map eN))),(.t (i64 v.Need)),(.t (.sl 2 ((v.Have:List zab).map zab.enc))),(.t (i64 v.Day))])
def zfu_O (v:zcy):List (Nat×O):=[]
def zfu_e (Q:zcy→Prop)(v:zcy):Prop:=Rt (zfu_R) (zfu_O) v (Q v)
def zfu_r (a0:zbn)(v:zcy):Prop:=Con Tryz.prog 10 [(.agg [(.t (i64 a0.Basket.ID)),(.t (i64 a0.Basket.Version)),(.t (str a0.Basket.Currency)),(.t (i64 a0.Basket.Rating)),(.t (i64 a0.Basket.Least)),(.t (i64 a0.Basket.Most)),(.t (.sl 3 ((a0.Basket.Cuts:List zbp).map zbp.enc))),(.t (i64 a0.Basket.Issuer)),(.t (i64 a0.Basket.Asset)),(.t (.sl 1 ((a0.Basket.Barred:List Int).map eN))),(.t (i64 a0.Need)),(.t (.sl 2 ((a0.Have:List zab).map zab.enc))),(.t (i64 a0.Day))])] [] (fun r_ o_=>r_=zfu_R v∧o_=zfu_O v)
def zfu_w (a0:zbn)(Q_:zcy→Prop):Prop:=zfu_e Q_ (⟨a0.Basket,a0.Need,a0.Have,a0.Day⟩:zcy)
def zfu_h (a0:zbn):HT zcy := .fin [] [] (⟨a0.Basket,a0.Need,a0.Have,a0.Day⟩:zcy)
theorem zfu_of {a0 v} (h:zfu_w a0 (fun v_=>v_=v)):zfu_r a0 v:=Con_of1 Tryz.call10 Tryz.func10 [] (zfu_h a0) h
def zec_s0 (a1:(List zab))(s0_0:Int)(s0_1:(List zab)):St:=mkSt [(6,(.ref 1600)),(12,(.t (.sl 2 ((a1:List zab).map zab.enc)))),(13,(.t (i64 (lenM zab.enc a1)))),(14,(.t (i64 s0_0)))] [(1600,(.row 2 ((s0_1:List zab).map zab.enc)))] []
def zec_q0_0 (a1:(List zab))(y:Int):St:=mkSt [(4,(.t (.v (.slice none 0 0)))),(5,(.t (i64 y)))] [] []
def zec_x0_0 (a1:(List zab))(Q:Int→Prop)(y:Int):Prop:=Lf .ret (zec_q0_0 a1) y (Q y)
def zec_q0_1 (a1:(List zab))(y:(List zab)):St:=mkSt [(6,(.ref 1600))] [(1600,(.row 2 ((y:List zab).map zab.enc)))] []
def zec_x0_1 (a1:(List zab))(Q:(List zab)→Prop)(y:(List zab)):Prop:=Lf (.exit 0) (zec_q0_1 a1) y (Q y)
def zec_L0 (a1:(List zab))(Q0_:Int→Prop)(Q1_:(List zab)→Prop)(s0_0:Int)(s0_1:(List zab)):Prop:=LW Tryz.prog 29 (loopAt Tryz.f40 0) (Outs.K (.cons .ret [.keep [4,5] []] (zec_q0_0 a1) Q0_ (.one (.exit 0) [.keep [6] [1600]] (zec_q0_1 a1) Q1_))) (zec_s0 a1 s0_0 s0_1)
def zec_w0 (a1:(List zab))(X_:Int→(List zab)→Prop)(Q0_:Int→Prop)(Q1_:(List zab)→Prop)(s0_0:Int)(s0_1:(List zab)):Prop:=Br (decide (s0_0<(lenM zab.enc a1))) (∃ xa1:zab,Got zab.enc a1 s0_0 xa1 (∃ ra2:(List zab)×Int,(zha_r s0_1 xa1 ra2)∧(Br (ra2.2 != 0) (zec_x0_0 a1 Q0_ ra2.2) (Num .i64 (s0_0+1) (X_ (s0_0+1) ra2.1))))) (zec_x0_1 a1 Q1_ s0_1)
def zec_h0 (a1:(List zab))(s0_0:Int)(s0_1:(List zab)):HT (Int ⊕ (List zab)) := .both 15 (.ex (zab) fun xa1 => .op 4 0 (.row (s0_0:Int).toNat (zab.enc xa1)) (.reg 5 [.ren 1600 620] [] (.ex ((List zab)×Int) fun ra2 => .op 5 2 (.call [620] (.tup [(.ref 1600),(.t (i64 ra2.2))]) [(1600,(.row 2 ((ra2.1:List zab).map zab.enc)))]) (.both 25 (.ret [.keep [4,5] []] (.inl ra2.2)) (.op 8 0 (.nw) (.round [.keep [6,12,13,14] [1600]])))))) (.ret [.keep [6] [1600]] (.inr s0_1))
theorem zec_l0 {a1 Q0_ Q1_ s0_0 s0_1} (h:zec_w0 a1 (zec_L0 a1 Q0_ Q1_) Q0_ Q1_ s0_0 s0_1):zec_L0 a1 Q0_ Q1_ s0_0 s0_1:=LW_runT _ (zec_h0 a1 s0_0 s0_1) h (by kernel_rfl)
def zec_R (v:(List zab)×Int):A:=(.tup [(.t (.sl 2 ((v.1:List zab).map zab.enc))),(.t (i64 v.2))])
def zec_O (v:(List zab)×Int):List (Nat×O):=[]
def zec_e (Q:((List zab)×Int)→Prop)(v:(List zab)×Int):Prop:=Rt (zec_R) (zec_O) v (Q v)
def zec_r (a0:(List zab))(a1:(List zab))(v:(List zab)×Int):Prop:=Con Tryz.prog 40 [(.t (.sl 2 ((a0:List zab).map zab.enc))),(.t (.sl 2 ((a1:List zab).map zab.enc)))] [] (fun r_ o_=>r_=zec_R v∧o_=zec_O v)
def zec_w (a0:(List zab))(a1:(List zab))(Q_:((List zab)×Int)→Prop):Prop:=∃ r1:(List zab),(CloneR Tryz.prog 70 2 zab.enc a0 r1)∧(zec_L0 a1 (fun (y2:Int)=>zec_e Q_ ([],y2)) (fun (y2:(List zab))=>zec_e Q_ (y2,0)) 0 r1)
def zec_h (a0:(List zab))(a1:(List zab)):HT ((List zab)×Int) := .ex ((List zab)) fun r1 => .op 1 1 (.call [] (.ref 1600) [(1600,(.row 2 ((r1:List zab).map zab.enc)))]) (.loop [.keep [6,12,13,14] [1600]] (.out (Int) .ret [.keep [4,5] []] (zec_q0_0 a1) (fun y2 => .fin [] [([0],2)] ([],y2)) (.out ((List zab)) (.exit 0) [.keep [6] [1600]] (zec_q0_1 a1) (fun y2 => .fin [] [] (y2,0)) (.nil))))
theorem zec_of {a0 a1 v} (h:zec_w a0 a1 (fun v_=>v_=v)):zec_r a0 a1 v:=Con_of1 Tryz.call40 Tryz.func40 [] (zec_h a0 a1) h
def zdg_s0 (a2:(List zab))(a1:zcy)(a0:zat)(s0_0:Int)(s0_1:(List zaa)):St:=mkSt [(0,(.at 700 0)),(4,(.at 4 0)),(8,(.ref 46)),(16,(.t (.sl 2 ((a2:List zab).map zab.enc)))),(17,(.t (i64 (lenM zab.enc a2)))),(18,(.t (i64 s0_0)))] [(4,(.box [(.t (i64 a1.Basket.ID)),(.t (i64 a1.Basket.Version)),(.t (str a1.Basket.Currency)),(.t (i64 a1.Basket.Rating)),(.t (i64 a1.Basket.Least)),(.t (i64 a1.Basket.Most)),(.t (.sl 3 ((a1.Basket.Cuts:List zbp).map zbp.enc))),(.t (i64 a1.Basket.Issuer)),(.t (i64 a1.Basket.Asset)),(.t (.sl 1 ((a1.Basket.Barred:List Int).map eN))),(.t (i64 a1.Need)),(.t (.sl 2 ((a1.Have:List zab).map zab.enc))),(.t (i64 a1.Day))])),(46,(.row 9 ((s0_1:List zaa).map zaa.enc))),(700,(.box [(.ref 701),(.ref 702),(.t (boo a0.made))])),(701,(.row 5 ((a0.l:List zag).map zag.enc))),(702,(.row 1 ((a0.prices:List Int).map eN)))] [700,701,702]
def zdg_q0_0 (a2:(List zab))(a1:zcy)(a0:zat)(y:Int):St:=mkSt [(6,(.t (.v (.slice none 0 0)))),(7,(.t (i64 y)))] [(700,(.box [(.ref 701),(.ref 702),(.t (boo a0.made))])),(701,(.row 5 ((a0.l:List zag).map zag.enc))),(702,(.row 1 ((a0.prices:List Int).map eN)))] [700,701,702]
def zdg_x0_0 (a2:(List zab))(a1:zcy)(a0:zat)(Q:Int→Prop)(y:Int):Prop:=Lf .ret (zdg_q0_0 a2 a1 a0) y (Q y)
def zdg_q0_1 (a2:(List zab))(a1:zcy)(a0:zat)(y:(List zaa)):St:=mkSt [(8,(.ref 46))] [(46,(.row 9 ((y:List zaa).map zaa.enc))),(700,(.box [(.ref 701),(.ref 702),(.t (boo a0.made))])),(701,(.row 5 ((a0.l:List zag).map zag.enc))),(702,(.row 1 ((a0.prices:List Int).map eN)))] [700,701,702]
def zdg_x0_1 (a2:(List zab))(a1:zcy)(a0:zat)(Q:(List zaa)→Prop)(y:(List zaa)):Prop:=Lf (.exit 0) (zdg_q0_1 a2 a1 a0) y (Q y)
def zdg_L0 (a2:(List zab))(a1:zcy)(a0:zat)(Q0_:Int→Prop)(Q1_:(List zaa)→Prop)(s0_0:Int)(s0_1:(List zaa)):Prop:=LW Tryz.prog 49 (loopAt Tryz.f32 0) (Outs.K (.cons .ret [.keep [6,7] [700,701,702]] (zdg_q0_0 a2 a1 a0) Q0_ (.one (.exit 0) [.keep [8] [46,700,701,702]] (zdg_q0_1 a2 a1 a0) Q1_))) (zdg_s0 a2 a1 a0 s0_0 s0_1)
def zdg_w0 (a2:(List zab))(a1:zcy)(a0:zat)(X_:Int→(List zaa)→Prop)(Q0_:Int→Prop)(Q1_:(List zaa)→Prop)(s0_0:Int)(s0_1:(List zaa)):Prop:=Br (decide (s0_0<(lenM zab.enc a2))) (∃ xa1:zab,Got zab.enc a2 s0_0 xa1 (∃ ra2:zaa×Int,(zft_r a0 a1.Basket xa1 a1.Day ra2)∧(Br (ra2.2 != 0) (zdg_x0_0 a2 a1 a0 Q0_ ra2.2) (∃ ra3:Bool,(zgu_r a1.Basket ra2.1.Asset a1.Day ra3)∧(Br (!ra3) (zdg_x0_0 a2 a1 a0 Q0_ 23) (App2 96 zaa.enc s0_1 [ra2.1] (Num .i64 (s0_0+1) (X_ (s0_0+1) (s0_1++[ra2.1]))))))))) (zdg_x0_1 a2 a1 a0 Q1_ s0_1)
def zdg_h0 (a2:(List zab))(a1:zcy)(a0:zat)(s0_0:Int)(s0_1:(List zaa)):HT (Int ⊕ (List zaa)) := .both 19 (.ex (zab) fun xa1 => .op 4 0 (.row (s0_0:Int).toNat (zab.enc xa1)) (.ex (zaa×Int) fun ra2 => .op 5 6 (.callR [] [700,701,702] [700,701,702] (.tup [(.agg [(.t (str ra2.1.Lot.ISIN)),(.t (i64 ra2.1.Lot.Qty)),(.t (str ra2.1.Asset.ISIN)),(.t (i64 ra2.1.Asset.Issuer)),(.t (i64 ra2.1.Asset.Rating)),(.t (i64 ra2.1.Asset.Maturity)),(.t (str ra2.1.Asset.Currency)),(.t (i64 ra2.1.Price)),(.t (i64 ra2.1.Cut))]),(.t (i64 ra2.2))]) []) (.both 33 (.ret [.keep [6,7] [700,701,702]] (.inl ra2.2)) (.ex (Bool) fun ra3 => .op 8 6 (.call [] (.t (boo ra3)) []) (.both 42 (.ret [.keep [6,7] [700,701,702]] (.inl 23)) (.op 10 3 (.no) (.rw 46 (((s0_1++[ra2.1]):List zaa).map zaa.enc) (.op 11 0 (.nw) (.round [.keep [0,4,8,16,17,18] [4,46,700,701,702]]))))))))) (.ret [.keep [8] [46,700,701,702]] (.inr s0_1))
theorem zdg_l0 {a2 a1 a0 Q0_ Q1_ s0_0 s0_1} (h:zdg_w0 a2 a1 a0 (zdg_L0 a2 a1 a0 Q0_ Q1_) Q0_ Q1_ s0_0 s0_1):zdg_L0 a2 a1 a0 Q0_ Q1_ s0_0 s0_1:=LW_runT _ (zdg_h0 a2 a1 a0 s0_0 s0_1) h (by kernel_rfl)
def zdg_R (a0:zat)(v:(List zaa)×Int):A:=(.tup [(.t (.sl 9 ((v.1:List zaa).map zaa.enc))),(.t (i64 v.2))])
def zdg_O (a0:zat)(v:(List zaa)×Int):List (Nat×O):=[(700,(.box [(.ref 701),(.ref 702),(.t (boo a0.made))])),(701,(.row 5 ((a0.l:List zag).map zag.enc))),(702,(.row 1 ((a0.prices:List Int).map eN)))]
def zdg_e (a0:zat)(Q:((List zaa)×Int)→Prop)(v:(List zaa)×Int):Prop:=Rt (zdg_R a0) (zdg_O a0) v (Q v)
def zdg_r (a0:zat)(a1:zcy)(a2:(List zab))(v:(List zaa)×Int):Prop:=Con Tryz.prog 32 [(.at 700 0),(.agg [(.t (i64 a1.Basket.ID)),(.t (i64 a1.Basket.Version)),(.t (str a1.Basket.Currency)),(.t (i64 a1.Basket.Rating)),(.t (i64 a1.Basket.Least)),(.t (i64 a1.Basket.Most)),(.t (.sl 3 ((a1.Basket.Cuts:List zbp).map zbp.enc))),(.t (i64 a1.Basket.Issuer)),(.t (i64 a1.Basket.Asset)),(.t (.sl 1 ((a1.Basket.Barred:List Int).map eN))),(.t (i64 a1.Need)),(.t (.sl 2 ((a1.Have:List zab).map zab.enc))),(.t (i64 a1.Day))]),(.t (.sl 2 ((a2:List zab).map zab.enc)))] [(700,(.box [(.ref 701),(.ref 702),(.t (boo a0.made))])),(701,(.row 5 ((a0.l:List zag).map zag.enc))),(702,(.row 1 ((a0.prices:List Int).map eN)))] (fun r_ o_=>r_=zdg_R a0 v∧o_=zdg_O a0 v)
def zdg_w (a0:zat)(a1:zcy)(a2:(List zab))(Q_:((List zaa)×Int)→Prop):Prop:=Mk0 96 (lenM zab.enc a2) (zdg_L0 a2 a1 a0 (fun (y1:Int)=>zdg_e a0 Q_ ([],y1)) (fun (y1:(List zaa))=>zdg_e a0 Q_ (y1,0)) 0 [])
def zdg_h (a0:zat)(a1:zcy)(a2:(List zab)):HT ((List zaa)×Int) := .op 1 2 (.cut 0 ((lenM zab.enc a2):Int).toNat) (.loop [.ren 15 46, .keep [0,4,8,16,17,18] [4,46,700,701,702]] (.out (Int) .ret [.keep [6,7] [700,701,702]] (zdg_q0_0 a2 a1 a0) (fun y1 => .fin [] [([0],9)] ([],y1)) (.out ((List zaa)) (.exit 0) [.keep [8] [46,700,701,702]] (zdg_q0_1 a2 a1 a0) (fun y1 => .fin [] [] (y1,0)) (.nil))))
theorem zdg_of {a0 a1 a2 v} (h:zdg_w a0 a1 a2 (fun v_=>v_=v)):zdg_r a0 a1 a2 v:=Con_of1 Tryz.call32 Tryz.func32 [700,701,702] (zdg_h a0 a1 a2) h
def zfv_R (v:Bool):A:=(.t (boo v))
def zfv_O (v:Bool):List (Nat×O):=[]
def zfv_e (Q:Bool→Prop)(v:Bool):Prop:=Rt (zfv_R) (zfv_O) v (Q v)
def zfv_r (a0:Int)(a1:Int)(v:Bool):Prop:=Con Tryz.prog 120 [(.t (i64 a0)),(.t (i64 a1))] [] (fun r_ o_=>r_=zfv_R v∧o_=zfv_O v)
def zfv_w (a0:Int)(a1:Int)(Q_:Bool→Prop):Prop:=Br (decide (a0≥1)) (Br (decide (a0≤4294967296)) (Br (decide (a1≥0)) (zfv_e Q_ (decide (a1<1000000))) (zfv_e Q_ false)) (zfv_e Q_ false)) (zfv_e Q_ false)
def zfv_h (a0:Int)(a1:Int):HT Bool := .bo 1 2 (.bo 1 6 (.bo 1 10 (.fin [] [] (decide (a1<1000000))) (.fin [] [] false)) (.fin [] [] false)) (.fin [] [] false)
theorem zfv_of {a0 a1 v} (h:zfv_w a0 a1 (fun v_=>v_=v)):zfv_r a0 a1 v:=Con_of1 Tryz.call120 Tryz.func120 [] (zfv_h a0 a1) h
def zgh_R (v:Int×Int):A:=(.tup [(.t (i64 v.1)),(.t (i64 v.2))])
def zgh_O (v:Int×Int):List (Nat×O):=[]
def zgh_e (Q:(Int×Int)→Prop)(v:Int×Int):Prop:=Rt (zgh_R) (zgh_O) v (Q v)
def zgh_r (a0:Int)(a1:Int)(v:Int×Int):Prop:=Con Tryz.prog 121 [(.t (i64 a0)),(.t (i64 a1))] [] (fun r_ o_=>r_=zgh_R v∧o_=zgh_O v)
def zgh_w (a0:Int)(a1:Int)(Q_:(Int×Int)→Prop):Prop:=Br (decide (a0<0)) (zgh_e Q_ (0,1)) (Br (decide (a0>1125899906842624)) (zgh_e Q_ (0,1)) (Br (decide (a1<1)) (zgh_e Q_ (0,1)) (Br (decide (a1>4294967296)) (zgh_e Q_ (0,1)) (∃ r1:Int×Int,(zfh_r a0 a1 1000000 1 r1)∧(zgh_e Q_ (r1.1,r1.2))))))
def zgh_h (a0:Int)(a1:Int):HT (Int×Int) := .bo 1 2 (.fin [] [] (0,1)) (.bo 1 6 (.fin [] [] (0,1)) (.bo 1 10 (.fin [] [] (0,1)) (.both 19 (.fin [] [] (0,1)) (.ex (Int×Int) fun r1 => .op 3 2 (.call [] (.tup [(.t (i64 r1.1)),(.t (i64 r1.2))]) []) (.fin [] [] (r1.1,r1.2))))))
theorem zgh_of {a0 a1 v} (h:zgh_w a0 a1 (fun v_=>v_=v)):zgh_r a0 a1 v:=Con_of1 Tryz.call121 Tryz.func121 [] (zgh_h a0 a1) h
def zer_R (v:Int×Int):A:=(.tup [(.t (i64 v.1)),(.t (i64 v.2))])
def zer_O (v:Int×Int):List (Nat×O):=[]
def zer_e (Q:(Int×Int)→Prop)(v:Int×Int):Prop:=Rt (zer_R) (zer_O) v (Q v)
def zer_r (a0:Int)(a1:Int)(a2:Int)(v:Int×Int):Prop:=Con Tryz.prog 69 [(.t (i64 a0)),(.t (i64 a1)),(.t (i64 a2))] [] (fun r_ o_=>r_=zer_R v∧o_=zer_O v)
def zer_w (a0:Int)(a1:Int)(a2:Int)(Q_:(Int×Int)→Prop):Prop:=∃ r1:Bool,(zfv_r a1 a2 r1)∧(Br (!r1) (zer_e Q_ (0,1)) (∃ r2:Int×Int,(zgh_r a0 a1 r2)∧(Br (r2.2 != 0) (zer_e Q_ (0,r2.2)) (Num .i64 (1000000-a2) (∃ r3:Int×Int,(zfh_r r2.1 (1000000-a2) 1000000 1 r3)∧(zer_e Q_ (r3.1,r3.2)))))))
def zer_h (a0:Int)(a1:Int)(a2:Int):HT (Int×Int) := .ex (Bool) fun r1 => .op 1 2 (.call [] (.t (boo r1)) []) (.both 13 (.fin [] [] (0,1)) (.ex (Int×Int) fun r2 => .op 3 2 (.call [] (.tup [(.t (i64 r2.1)),(.t (i64 r2.2))]) []) (.both 21 (.fin [] [] (0,r2.2)) (.op 6 2 (.nw) (.ex (Int×Int) fun r3 => .op 6 3 (.call [] (.tup [(.t (i64 r3.1)),(.t (i64 r3.2))]) []) (.fin [] [] (r3.1,r3.2)))))))
theorem zer_of {a0 a1 a2 v} (h:zer_w a0 a1 a2 (fun v_=>v_=v)):zer_r a0 a1 a2 v:=Con_of1 Tryz.call69 Tryz.func69 [] (zer_h a0 a1 a2) h
def zdh_R (v:Int):A:=(.t (i64 v))
def zdh_O (v:Int):List (Nat×O):=[]
def zdh_e (Q:Int→Prop)(v:Int):Prop:=Rt (zdh_R) (zdh_O) v (Q v)
def zdh_r (a0:zaa)(v:Int):Prop:=Con Tryz.prog 67 [(.agg [(.t (str a0.Lot.ISIN)),(.t (i64 a0.Lot.Qty)),(.t (str a0.Asset.ISIN)),(.t (i64 a0.Asset.Issuer)),(.t (i64 a0.Asset.Rating)),(.t (i64 a0.Asset.Maturity)),(.t (str a0.Asset.Currency)),(.t (i64 a0.Price)),(.t (i64 a0.Cut))])] [] (fun r_ o_=>r_=zdh_R v∧o_=zdh_O v)
def zdh_w (a0:zaa)(Q_:Int→Prop):Prop:=∃ r1:Int×Int,(zer_r a0.Lot.Qty a0.Price a0.Cut r1)∧(Br (r1.2 != 0) (zdh_e Q_ 0) (zdh_e Q_ r1.1))
def zdh_h (a0:zaa):HT Int := .ex (Int×Int) fun r1 => .op 1 7 (.call [] (.tup [(.t (i64 r1.1)),(.t (i64 r1.2))]) []) (.both 17 (.fin [] [] 0) (.fin [] [] r1.1))
theorem zdh_of {a0 v} (h:zdh_w a0 (fun v_=>v_=v)):zdh_r a0 v:=Con_of1 Tryz.call67 Tryz.func67 [] (zdh_h a0) h
def zcr_s0 (a0:(List zaa))(s0_0:Int)(s0_1:(GM ByteArray Bool)):St:=mkSt [(3,(.ref 11)),(12,(.t (.sl 9 ((a0:List zaa).map zaa.enc)))),(13,(.t (i64 (lenM zaa.enc a0)))),(14,(.t (i64 s0_0)))] [(11,(.map false s0_1.clock (s0_1.ents kS eB)))] []
def zcr_q0_0 (a0:(List zaa))(y:Int):St:=mkSt [(2,(.t (i64 y)))] [] []
def zcr_x0_0 (a0:(List zaa))(Q:Int→Prop)(y:Int):Prop:=Lf .ret (zcr_q0_0 a0) y (Q y)
def zcr_q0_1 (a0:(List zaa))(y:Unit):St:=mkSt [] [] []
def zcr_x0_1 (a0:(List zaa))(Q:Unit→Prop)(y:Unit):Prop:=Lf (.exit 0) (zcr_q0_1 a0) y (Q y)
def zcr_L0 (a0:(List zaa))(Q0_:Int→Prop)(Q1_:Unit→Prop)(s0_0:Int)(s0_1:(GM ByteArray Bool)):Prop:=LW Tryz.prog 59 (loopAt Tryz.f61 0) (Outs.K (.cons .ret [.keep [2] []] (zcr_q0_0 a0) Q0_ (.one (.exit 0) [.keep [] []] (zcr_q0_1 a0) Q1_))) (zcr_s0 a0 s0_0 s0_1)
def zcr_w0 (a0:(List zaa))(X_:Int→(GM ByteArray Bool)→Prop)(Q0_:Int→Prop)(Q1_:Unit→Prop)(s0_0:Int)(s0_1:(GM ByteArray Bool)):Prop:=Br (decide (s0_0<(lenM zaa.enc a0))) (∃ xa1:zaa,Got zaa.enc a0 s0_0 xa1 (∃ ra2:Int×Int,(zer_r xa1.Lot.Qty xa1.Price xa1.Cut ra2)∧(Br (ra2.2 != 0) (zcr_x0_0 a0 Q0_ 1) (Br (xa1.Lot.Qty==0) (zcr_x0_0 a0 Q0_ 1) (∃ ra3:Int,(zdh_r xa1 ra3)∧(Br (decide (ra3>1125899906842624)) (zcr_x0_0 a0 Q0_ 9) (∃ va4:Bool,∃ ba5:Bool,Look .string kS eB false s0_1 xa1.Asset.ISIN va4 ba5 (Br va4 (zcr_x0_0 a0 Q0_ 7) (Br (!strEq xa1.Asset.ISIN xa1.Lot.ISIN) (zcr_x0_0 a0 Q0_ 7) (∃ ma6:(GM ByteArray Bool),Put .string kS eB s0_1 xa1.Asset.ISIN true ma6 (Num .i64 (s0_0+1) (X_ (s0_0+1) ma6)))))))))))) (zcr_x0_1 a0 Q1_ ())
def zcr_h0 (a0:(List zaa))(s0_0:Int)(s0_1:(GM ByteArray Bool)):HT (Int ⊕ Unit) := .both 15 (.ex (zaa) fun xa1 => .op 6 0 (.row (s0_0:Int).toNat (zaa.enc xa1)) (.ex (Int×Int) fun ra2 => .op 7 7 (.call [] (.tup [(.t (i64 ra2.1)),(.t (i64 ra2.2))]) []) (.bo 8 2 (.ret [.keep [2] []] (.inl 1)) (.both 36 (.ret [.keep [2] []] (.inl 1)) (.ex (Int) fun ra3 => .op 10 1 (.call [] (.t (i64 ra3)) []) (.both 39 (.ret [.keep [2] []] (.inl 9)) (.ex (Bool) fun va4 => .ex (Bool) fun ba5 => .op 12 4 (.look (eB va4) ba5) (.bo 12 5 (.ret [.keep [2] []] (.inl 7)) (.both 53 (.ret [.keep [2] []] (.inl 7)) (.ex ((GM ByteArray Bool)) fun ma6 => .op 14 4 (.putM ma6.clock (ma6.ents kS eB)) (.op 15 0 (.nw) (.round [.keep [3,12,13,14] [11]])))))))))))) (.ret [.keep [] []] (.inr ()))
theorem zcr_l0 {a0 Q0_ Q1_ s0_0 s0_1} (h:zcr_w0 a0 (zcr_L0 a0 Q0_ Q1_) Q0_ Q1_ s0_0 s0_1):zcr_L0 a0 Q0_ Q1_ s0_0 s0_1:=LW_runT _ (zcr_h0 a0 s0_0 s0_1) h (by kernel_rfl)
def zcr_R (v:Int):A:=(.t (i64 v))
def zcr_O (v:Int):List (Nat×O):=[]
def zcr_e (Q:Int→Prop)(v:Int):Prop:=Rt (zcr_R) (zcr_O) v (Q v)
def zcr_r (a0:(List zaa))(v:Int):Prop:=Con Tryz.prog 61 [(.t (.sl 9 ((a0:List zaa).map zaa.enc)))] [] (fun r_ o_=>r_=zcr_R v∧o_=zcr_O v)
def zcr_w (a0:(List zaa))(Q_:Int→Prop):Prop:=Br (decide ((lenM zaa.enc a0)>64)) (zcr_e Q_ 2) (zcr_L0 a0 (fun (y1:Int)=>zcr_e Q_ y1) (fun (y1:Unit)=>zcr_e Q_ 0) 0 (GM.nil:(GM ByteArray Bool)))
def zcr_h (a0:(List zaa)):HT Int := .both 10 (.fin [] [] 2) (.loop [.keep [3,12,13,14] [11]] (.out (Int) .ret [.keep [2] []] (zcr_q0_0 a0) (fun y1 => .fin [] [] y1) (.out (Unit) (.exit 0) [.keep [] []] (zcr_q0_1 a0) (fun y1 => .fin [] [] 0) (.nil))))
theorem zcr_of {a0 v} (h:zcr_w a0 (fun v_=>v_=v)):zcr_r a0 v:=Con_of1 Tryz.call61 Tryz.func61 [] (zcr_h a0) h
def zgt_R (c0:Int)(v:Int):A:=(.t (i64 v))
def zgt_O (c0:Int)(v:Int):List (Nat×O):=[(640,(.box [(.t (i64 c0))]))]
def zgt_e (c0:Int)(Q:Int→Prop)(v:Int):Prop:=Rt (zgt_R c0) (zgt_O c0) v (Q v)
def zgt_r (a0:Int)(c0:Int)(v:Int):Prop:=Con Tryz.prog 159 [(.t (i64 a0)),(.at 640 0)] [(640,(.box [(.t (i64 c0))]))] (fun r_ o_=>r_=zgt_R c0 v∧o_=zgt_O c0 v)
def zgt_w (a0:Int)(c0:Int)(Q_:Int→Prop):Prop:=∃ r1:Int×Int,(zfh_r c0 a0 1000000 1 r1)∧(zgt_e c0 Q_ r1.1)
def zgt_h (a0:Int)(c0:Int):HT Int := .ex (Int×Int) fun r1 => .op 1 2 (.call [] (.tup [(.t (i64 r1.1)),(.t (i64 r1.2))]) []) (.fin [] [] r1.1)
theorem zgt_of {a0 c0 v} (h:zgt_w a0 c0 (fun v_=>v_=v)):zgt_r a0 c0 v:=Con_of1 Tryz.call159 Tryz.func159 [640] (zgt_h a0 c0) h
def zdr_R0 (v:Int):A:=(.tup [(.t (.v (.pointer none))),(.t (i64 v))])
def zdr_O0 (v:Int):List (Nat×O):=[]
def zdr_e0 (Q:Int→Prop)(v:Int):Prop:=Rt (zdr_R0) (zdr_O0) v (Q v)
def zdr_r0 (a0:zav)(a1:Int)(v:Int):Prop:=Con Tryz.prog 108 [(.agg [(.t (i64 a0.ID)),(.t (i64 a0.Version)),(.t (str a0.Currency)),(.t (i64 a0.Rating)),(.t (i64 a0.Least)),(.t (i64 a0.Most)),(.t (.sl 3 ((a0.Cuts:List zbp).map zbp.enc))),(.t (i64 a0.Issuer)),(.t (i64 a0.Asset)),(.t (.sl 1 ((a0.Barred:List Int).map eN)))]),(.t (i64 a1))] [] (fun r_ o_=>r_=zdr_R0 v∧o_=zdr_O0 v)
def zdr_R1 (v:zau×Int):A:=(.tup [(.at 720 0),(.t (i64 v.2))])
def zdr_O1 (v:zau×Int):List (Nat×O):=[(720,(.box [(.t (i64 v.1.need)),(.t (i64 v.1.issuer)),(.t (i64 v.1.asset)),(.ref 724),(.ref 725),(.t (i64 v.1.sum))])),(724,(.map false v.1.issuers.clock (v.1.issuers.ents (kI .i64) eN))),(725,(.map false v.1.assets.clock (v.1.assets.ents kS eN)))]
def zdr_e1 (Q:(zau×Int)→Prop)(v:zau×Int):Prop:=Rt (zdr_R1) (zdr_O1) v (Q v)
def zdr_r1 (a0:zav)(a1:Int)(v:zau×Int):Prop:=Con Tryz.prog 108 [(.agg [(.t (i64 a0.ID)),(.t (i64 a0.Version)),(.t (str a0.Currency)),(.t (i64 a0.Rating)),(.t (i64 a0.Least)),(.t (i64 a0.Most)),(.t (.sl 3 ((a0.Cuts:List zbp).map zbp.enc))),(.t (i64 a0.Issuer)),(.t (i64 a0.Asset)),(.t (.sl 1 ((a0.Barred:List Int).map eN)))]),(.t (i64 a1))] [] (fun r_ o_=>r_=zdr_R1 v∧o_=zdr_O1 v)
def zdr_w (a0:zav)(a1:Int)(Q0_:Int→Prop)(Q1_:(zau×Int)→Prop):Prop:=Br (decide (a1<0)) (zdr_e0 Q0_ 1) (Br (decide (a1>1125899906842624)) (zdr_e0 Q0_ 1) (Br (decide (a0.Issuer<0)) (zdr_e0 Q0_ 1) (Br (decide (a0.Issuer>1000000)) (zdr_e0 Q0_ 1) (Br (decide (a0.Asset<0)) (zdr_e0 Q0_ 1) (Br (decide (a0.Asset>1000000)) (zdr_e0 Q0_ 1) (∃ r1:Int,(zgt_r a0.Issuer a1 r1)∧(∃ r2:Int,(zgt_r a0.Asset a1 r2)∧(zdr_e1 Q1_ ((⟨a1,r1,r2,(GM.nil:(GM Int Int)),(GM.nil:(GM ByteArray Int)),0⟩:zau),0)))))))))
def zdr_h (a0:zav)(a1:Int):HT (Int ⊕ (zau×Int)) := .bo 1 2 (.fin [] [] (.inl 1)) (.bo 1 6 (.fin [] [] (.inl 1)) (.bo 1 11 (.fin [] [] (.inl 1)) (.bo 1 16 (.fin [] [] (.inl 1)) (.bo 1 21 (.fin [] [] (.inl 1)) (.both 32 (.fin [] [] (.inl 1)) (.reg 4 [.ren 3 640] [] (.ex (Int) fun r1 => .op 4 4 (.callR [] [640] [640] (.t (i64 r1)) []) (.ex (Int) fun r2 => .op 4 8 (.callR [] [640] [640] (.t (i64 r2)) []) (.fin [.ren 46 720, .ren 43 724, .ren 44 725] [] (.inr ((⟨a1,r1,r2,(GM.nil:(GM Int Int)),(GM.nil:(GM ByteArray Int)),0⟩:zau),0)))))))))))
theorem zdr_con {a0 a1 Q0_ Q1_} (h:zdr_w a0 a1 Q0_ Q1_):Con Tryz.prog 108 [(.agg [(.t (i64 a0.ID)),(.t (i64 a0.Version)),(.t (str a0.Currency)),(.t (i64 a0.Rating)),(.t (i64 a0.Least)),(.t (i64 a0.Most)),(.t (.sl 3 ((a0.Cuts:List zbp).map zbp.enc))),(.t (i64 a0.Issuer)),(.t (i64 a0.Asset)),(.t (.sl 1 ((a0.Barred:List Int).map eN)))]),(.t (i64 a1))] [] (Rets.R (.cons (zdr_R0) (zdr_O0) Q0_ (.one (zdr_R1) (zdr_O1) Q1_))):=Con_runT Tryz.call108 Tryz.func108 [720,724,725] (zdr_h a0 a1) (.cons (zdr_R0) (zdr_O0) Q0_ (.one (zdr_R1) (zdr_O1) Q1_)) (by kernel_rfl) h (by kernel_rfl)
theorem zdr_of0 {a0 a1 v} (h:zdr_w a0 a1 (fun v_=>v_=v) (fun _=>False)):zdr_r0 a0 a1 v:=(zdr_con h).mono fun _ _ ⟨v_,hv_⟩=>by rcases v_ with v_ | v_ <;> first | (exact absurd hv_.2 id) | (obtain⟨⟨h1,h2⟩,rfl⟩:=hv_; exact⟨h1,h2⟩)
theorem zdr_of1 {a0 a1 v} (h:zdr_w a0 a1 (fun _=>False) (fun v_=>v_=v)):zdr_r1 a0 a1 v:=(zdr_con h).mono fun _ _ ⟨v_,hv_⟩=>by rcases v_ with v_ | v_ <;> first | (exact absurd hv_.2 id) | (obtain⟨⟨h1,h2⟩,rfl⟩:=hv_; exact⟨h1,h2⟩)
def zfy_R (v:zau):A:=(.tup [])
def zfy_O (v:zau):List (Nat×O):=[(720,(.box [(.t (i64 v.need)),(.t (i64 v.issuer)),(.t (i64 v.asset)),(.ref 724),(.ref 725),(.t (i64 v.sum))])),(724,(.map false v.issuers.clock (v.issuers.ents (kI .i64) eN))),(725,(.map false v.assets.clock (v.assets.ents kS eN)))]
def zfy_e (Q:zau→Prop)(v:zau):Prop:=Rt (zfy_R) (zfy_O) v (Q v)
def zfy_r (a0:zau)(a1:zag)(a2:Int)(v:zau):Prop:=Con Tryz.prog 142 [(.at 720 0),(.agg [(.t (str a1.ISIN)),(.t (i64 a1.Issuer)),(.t (i64 a1.Rating)),(.t (i64 a1.Maturity)),(.t (str a1.Currency))]),(.t (i64 a2))] [(720,(.box [(.t (i64 a0.need)),(.t (i64 a0.issuer)),(.t (i64 a0.asset)),(.ref 724),(.ref 725),(.t (i64 a0.sum))])),(724,(.map false a0.issuers.clock (a0.issuers.ents (kI .i64) eN))),(725,(.map false a0.assets.clock (a0.assets.ents kS eN)))] (fun r_ o_=>r_=zfy_R v∧o_=zfy_O v)
def zfy_w (a0:zau)(a1:zag)(a2:Int)(Q_:zau→Prop):Prop:=∃ v1:Int,∃ b2:Bool,Look (.int .i64) (kI .i64) eN 0 a0.issuers a1.Issuer v1 b2 (Num .i64 (v1+a2) (∃ m3:(GM Int Int),Put (.int .i64) (kI .i64) eN a0.issuers a1.Issuer (v1+a2) m3 (∃ v4:Int,∃ b5:Bool,Look .string kS eN 0 a0.assets a1.ISIN v4 b5 (Num .i64 (v4+a2) (∃ m6:(GM ByteArray Int),Put .string kS eN a0.assets a1.ISIN (v4+a2) m6 (Num .i64 (a0.sum+a2) (zfy_e Q_ (⟨a0.need,a0.issuer,a0.asset,m3,m6,(a0.sum+a2)⟩:zau))))))))
def zfy_h (a0:zau)(a1:zag)(a2:Int):HT zau := .ex (Int) fun v1 => .ex (Bool) fun b2 => .op 1 6 (.look (eN v1) b2) (.op 1 8 (.nw) (.ex ((GM Int Int)) fun m3 => .op 1 9 (.putM m3.clock (m3.ents (kI .i64) eN)) (.ex (Int) fun v4 => .ex (Bool) fun b5 => .op 2 6 (.look (eN v4) b5) (.op 2 8 (.nw) (.ex ((GM ByteArray Int)) fun m6 => .op 2 9 (.putM m6.clock (m6.ents kS eN)) (.op 3 5 (.nw) (.fin [] [] (⟨a0.need,a0.issuer,a0.asset,m3,m6,(a0.sum+a2)⟩:zau))))))))
theorem zfy_of {a0 a1 a2 v} (h:zfy_w a0 a1 a2 (fun v_=>v_=v)):zfy_r a0 a1 a2 v:=Con_of1 Tryz.call142 Tryz.func142 [720,724,725] (zfy_h a0 a1 a2) h
def zfj_R (v:Int×Int):A:=(.tup [(.t (i64 v.1)),(.t (i64 v.2))])
def zfj_O (v:Int×Int):List (Nat×O):=[]
def zfj_e (Q:(Int×Int)→Prop)(v:Int×Int):Prop:=Rt (zfj_R) (zfj_O) v (Q v)
def zfj_r (a0:Int)(a1:Int)(v:Int×Int):Prop:=Con Tryz.prog 162 [(.t (i64 a0)),(.t (i64 a1))] [] (fun r_ o_=>r_=zfj_R v∧o_=zfj_O v)
def zfj_w (a0:Int)(a1:Int)(Q_:(Int×Int)→Prop):Prop:=Num .i64 (a0+a1) (Br (decide (a0>0)) (Br (decide (a1>0)) (Br (decide ((a0+a1)<0)) (zfj_e Q_ (0,9)) (Br (decide (a0<0)) (Br (decide (a1<0)) (Br (decide ((a0+a1)≥0)) (zfj_e Q_ (0,9)) (zfj_e Q_ ((a0+a1),0))) (zfj_e Q_ ((a0+a1),0))) (zfj_e Q_ ((a0+a1),0)))) (Br (decide (a0<0)) (Br (decide (a1<0)) (Br (decide ((a0+a1)≥0)) (zfj_e Q_ (0,9)) (zfj_e Q_ ((a0+a1),0))) (zfj_e Q_ ((a0+a1),0))) (zfj_e Q_ ((a0+a1),0)))) (Br (decide (a0<0)) (Br (decide (a1<0)) (Br (decide ((a0+a1)≥0)) (zfj_e Q_ (0,9)) (zfj_e Q_ ((a0+a1),0))) (zfj_e Q_ ((a0+a1),0))) (zfj_e Q_ ((a0+a1),0))))
def zfj_h (a0:Int)(a1:Int):HT (Int×Int) := .op 1 2 (.nw) (.bo 2 2 (.bo 2 6 (.bo 2 10 (.fin [] [] (0,9)) (.bo 2 13 (.bo 2 17 (.both 31 (.fin [] [] (0,9)) (.fin [] [] ((a0+a1),0))) (.fin [] [] ((a0+a1),0))) (.fin [] [] ((a0+a1),0)))) (.bo 2 13 (.bo 2 17 (.both 31 (.fin [] [] (0,9)) (.fin [] [] ((a0+a1),0))) (.fin [] [] ((a0+a1),0))) (.fin [] [] ((a0+a1),0)))) (.bo 2 13 (.bo 2 17 (.both 31 (.fin [] [] (0,9)) (.fin [] [] ((a0+a1),0))) (.fin [] [] ((a0+a1),0))) (.fin [] [] ((a0+a1),0))))
theorem zfj_of {a0 a1 v} (h:zfj_w a0 a1 (fun v_=>v_=v)):zfj_r a0 a1 v:=Con_of1 Tryz.call162 Tryz.func162 [] (zfj_h a0 a1) h
def zcw_s0 (a0:(List zaa))(s0_0:Int)(s0_1:Int):St:=mkSt [(4,(.t (i64 s0_0))),(8,(.t (.sl 9 ((a0:List zaa).map zaa.enc)))),(9,(.t (i64 (lenM zaa.enc a0)))),(10,(.t (i64 s0_1)))] [] []
def zcw_q0_0 (a0:(List zaa))(y:Int):St:=mkSt [(2,(.t (i64 0))),(3,(.t (i64 y)))] [] []
def zcw_x0_0 (a0:(List zaa))(Q:Int→Prop)(y:Int):Prop:=Lf .ret (zcw_q0_0 a0) y (Q y)
def zcw_q0_1 (a0:(List zaa))(y:Int):St:=mkSt [(4,(.t (i64 y)))] [] []
def zcw_x0_1 (a0:(List zaa))(Q:Int→Prop)(y:Int):Prop:=Lf (.exit 0) (zcw_q0_1 a0) y (Q y)
def zcw_L0 (a0:(List zaa))(Q0_:Int→Prop)(Q1_:Int→Prop)(s0_0:Int)(s0_1:Int):Prop:=LW Tryz.prog 26 (loopAt Tryz.f117 0) (Outs.K (.cons .ret [.keep [2,3] []] (zcw_q0_0 a0) Q0_ (.one (.exit 0) [.keep [4] []] (zcw_q0_1 a0) Q1_))) (zcw_s0 a0 s0_0 s0_1)
def zcw_w0 (a0:(List zaa))(X_:Int→Int→Prop)(Q0_:Int→Prop)(Q1_:Int→Prop)(s0_0:Int)(s0_1:Int):Prop:=Br (decide (s0_1<(lenM zaa.enc a0))) (∃ xa1:zaa,Got zaa.enc a0 s0_1 xa1 (∃ ra2:Int,(zdh_r xa1 ra2)∧(∃ ra3:Int×Int,(zfj_r s0_0 ra2 ra3)∧(Br (ra3.2 != 0) (zcw_x0_0 a0 Q0_ ra3.2) (Num .i64 (s0_1+1) (X_ ra3.1 (s0_1+1))))))) (zcw_x0_1 a0 Q1_ s0_0)
def zcw_h0 (a0:(List zaa))(s0_0:Int)(s0_1:Int):HT (Int ⊕ Int) := .both 11 (.ex (zaa) fun xa1 => .op 4 0 (.row (s0_1:Int).toNat (zaa.enc xa1)) (.ex (Int) fun ra2 => .op 5 2 (.call [] (.t (i64 ra2)) []) (.ex (Int×Int) fun ra3 => .op 5 3 (.call [] (.tup [(.t (i64 ra3.1)),(.t (i64 ra3.2))]) []) (.both 22 (.ret [.keep [2,3] []] (.inl ra3.2)) (.op 8 0 (.nw) (.round [.keep [4,8,9,10] []])))))) (.ret [.keep [4] []] (.inr s0_0))
theorem zcw_l0 {a0 Q0_ Q1_ s0_0 s0_1} (h:zcw_w0 a0 (zcw_L0 a0 Q0_ Q1_) Q0_ Q1_ s0_0 s0_1):zcw_L0 a0 Q0_ Q1_ s0_0 s0_1:=LW_runT _ (zcw_h0 a0 s0_0 s0_1) h (by kernel_rfl)
def zcw_R (v:Int×Int):A:=(.tup [(.t (i64 v.1)),(.t (i64 v.2))])
def zcw_O (v:Int×Int):List (Nat×O):=[]
def zcw_e (Q:(Int×Int)→Prop)(v:Int×Int):Prop:=Rt (zcw_R) (zcw_O) v (Q v)
def zcw_r (a0:(List zaa))(v:Int×Int):Prop:=Con Tryz.prog 117 [(.t (.sl 9 ((a0:List zaa).map zaa.enc)))] [] (fun r_ o_=>r_=zcw_R v∧o_=zcw_O v)
def zcw_w (a0:(List zaa))(Q_:(Int×Int)→Prop):Prop:=zcw_L0 a0 (fun (y1:Int)=>zcw_e Q_ (0,y1)) (fun (y1:Int)=>zcw_e Q_ (y1,0)) 0 0
def zcw_h (a0:(List zaa)):HT (Int×Int) := .loop [.keep [4,8,9,10] []] (.out (Int) .ret [.keep [2,3] []] (zcw_q0_0 a0) (fun y1 => .fin [] [] (0,y1)) (.out (Int) (.exit 0) [.keep [4] []] (zcw_q0_1 a0) (fun y1 => .fin [] [] (y1,0)) (.nil)))
theorem zcw_of {a0 v} (h:zcw_w a0 (fun v_=>v_=v)):zcw_r a0 v:=Con_of1 Tryz.call117 Tryz.func117 [] (zcw_h a0) h
def zfa_R (v:Int×Int):A:=(.tup [(.t (i64 v.1)),(.t (i64 v.2))])
def zfa_O (v:Int×Int):List (Nat×O):=[]
def zfa_e (Q:(Int×Int)→Prop)(v:Int×Int):Prop:=Rt (zfa_R) (zfa_O) v (Q v)
def zfa_r (a0:Int)(a1:Int)(v:Int×Int):Prop:=Con Tryz.prog 118 [(.t (i64 a0)),(.t (i64 a1))] [] (fun r_ o_=>r_=zfa_R v∧o_=zfa_O v)
def zfa_w (a0:Int)(a1:Int)(Q_:(Int×Int)→Prop):Prop:=Br (decide (a0≥0)) (Br (decide (a1<0)) (Br (decide ((IntKind.wrap .i64 (a0-a1))<0)) (zfa_e Q_ (0,9)) (Br (decide (a0<0)) (Br (decide (a1>0)) (Br (decide ((IntKind.wrap .i64 (a0-a1))≥0)) (zfa_e Q_ (0,9)) (zfa_e Q_ ((IntKind.wrap .i64 (a0-a1)),0))) (zfa_e Q_ ((IntKind.wrap .i64 (a0-a1)),0))) (zfa_e Q_ ((IntKind.wrap .i64 (a0-a1)),0)))) (Br (decide (a0<0)) (Br (decide (a1>0)) (Br (decide ((IntKind.wrap .i64 (a0-a1))≥0)) (zfa_e Q_ (0,9)) (zfa_e Q_ ((IntKind.wrap .i64 (a0-a1)),0))) (zfa_e Q_ ((IntKind.wrap .i64 (a0-a1)),0))) (zfa_e Q_ ((IntKind.wrap .i64 (a0-a1)),0)))) (Br (decide (a0<0)) (Br (decide (a1>0)) (Br (decide ((IntKind.wrap .i64 (a0-a1))≥0)) (zfa_e Q_ (0,9)) (zfa_e Q_ ((IntKind.wrap .i64 (a0-a1)),0))) (zfa_e Q_ ((IntKind.wrap .i64 (a0-a1)),0))) (zfa_e Q_ ((IntKind.wrap .i64 (a0-a1)),0)))
def zfa_h (a0:Int)(a1:Int):HT (Int×Int) := .bo 2 2 (.bo 2 6 (.bo 2 10 (.fin [] [] (0,9)) (.bo 2 13 (.bo 2 17 (.both 31 (.fin [] [] (0,9)) (.fin [] [] ((IntKind.wrap .i64 (a0-a1)),0))) (.fin [] [] ((IntKind.wrap .i64 (a0-a1)),0))) (.fin [] [] ((IntKind.wrap .i64 (a0-a1)),0)))) (.bo 2 13 (.bo 2 17 (.both 31 (.fin [] [] (0,9)) (.fin [] [] ((IntKind.wrap .i64 (a0-a1)),0))) (.fin [] [] ((IntKind.wrap .i64 (a0-a1)),0))) (.fin [] [] ((IntKind.wrap .i64 (a0-a1)),0)))) (.bo 2 13 (.bo 2 17 (.both 31 (.fin [] [] (0,9)) (.fin [] [] ((IntKind.wrap .i64 (a0-a1)),0))) (.fin [] [] ((IntKind.wrap .i64 (a0-a1)),0))) (.fin [] [] ((IntKind.wrap .i64 (a0-a1)),0)))
theorem zfa_of {a0 a1 v} (h:zfa_w a0 a1 (fun v_=>v_=v)):zfa_r a0 a1 v:=Con_of1 Tryz.call118 Tryz.func118 [] (zfa_h a0 a1) h
def zga_R (v:Int×Int):A:=(.tup [(.t (i64 v.1)),(.t (i64 v.2))])
def zga_O (v:Int×Int):List (Nat×O):=[]
def zga_e (Q:(Int×Int)→Prop)(v:Int×Int):Prop:=Rt (zga_R) (zga_O) v (Q v)
def zga_r (a0:(List zaa))(a1:Int)(v:Int×Int):Prop:=Con Tryz.prog 65 [(.t (.sl 9 ((a0:List zaa).map zaa.enc))),(.t (i64 a1))] [] (fun r_ o_=>r_=zga_R v∧o_=zga_O v)
def zga_w (a0:(List zaa))(a1:Int)(Q_:(Int×Int)→Prop):Prop:=∃ r1:Int×Int,(zcw_r a0 r1)∧(Br (r1.2 != 0) (zga_e Q_ (0,r1.2)) (∃ r2:Int×Int,(zfa_r r1.1 a1 r2)∧(zga_e Q_ (r2.1,r2.2))))
def zga_h (a0:(List zaa))(a1:Int):HT (Int×Int) := .ex (Int×Int) fun r1 => .op 1 1 (.call [] (.tup [(.t (i64 r1.1)),(.t (i64 r1.2))]) []) (.both 14 (.fin [] [] (0,r1.2)) (.ex (Int×Int) fun r2 => .op 4 2 (.call [] (.tup [(.t (i64 r2.1)),(.t (i64 r2.2))]) []) (.fin [] [] (r2.1,r2.2))))
theorem zga_of {a0 a1 v} (h:zga_w a0 a1 (fun v_=>v_=v)):zga_r a0 a1 v:=Con_of1 Tryz.call65 Tryz.func65 [] (zga_h a0 a1) h
def zbl_s0 (a0:(List zab))(s0_0:Int):St:=mkSt [(0,(.t (.sl 2 ((a0:List zab).map zab.enc)))),(4,(.t (i64 s0_0)))] [] []
def zbl_q0_0 (a0:(List zab))(y:Int×Int):St:=mkSt [(2,(.t (i64 y.1))),(3,(.t (i64 y.2)))] [] []
def zbl_x0_0 (a0:(List zab))(Q:(Int×Int)→Prop)(y:Int×Int):Prop:=Lf .ret (zbl_q0_0 a0) y (Q y)
def zbl_q0_1 (a0:(List zab))(y:Unit):St:=mkSt [(0,(.t (.sl 2 ((a0:List zab).map zab.enc))))] [] []
def zbl_x0_1 (a0:(List zab))(Q:Unit→Prop)(y:Unit):Prop:=Lf (.exit 0) (zbl_q0_1 a0) y (Q y)
def zbl_L0 (a0:(List zab))(Q0_:(Int×Int)→Prop)(Q1_:Unit→Prop)(s0_0:Int):Prop:=LW Tryz.prog 41 (loopAt Tryz.f35 0) (Outs.K (.cons .ret [.keep [2,3] []] (zbl_q0_0 a0) Q0_ (.one (.exit 0) [.keep [0] []] (zbl_q0_1 a0) Q1_))) (zbl_s0 a0 s0_0)
def zbl_w0 (a0:(List zab))(X_:Int→Prop)(Q0_:(Int×Int)→Prop)(Q1_:Unit→Prop)(s0_0:Int):Prop:=Br (decide (s0_0<(lenM zab.enc a0))) (∃ xa1:zab,Got zab.enc a0 s0_0 xa1 (∃ ra2:Bool,(zen_r xa1.Qty ra2)∧(Br (!ra2) (zbl_x0_0 a0 Q0_ (s0_0,1)) (Br (decide (s0_0>0)) (Num .i64 (s0_0-1) (∃ xa3:zab,Got zab.enc a0 (s0_0-1) xa3 (Got zab.enc a0 s0_0 xa1 (Br (!strLt xa3.ISIN xa1.ISIN) (zbl_x0_0 a0 Q0_ (s0_0,7)) (Num .i64 (s0_0+1) (X_ (s0_0+1))))))) (Num .i64 (s0_0+1) (X_ (s0_0+1))))))) (zbl_x0_1 a0 Q1_ ())
def zbl_h0 (a0:(List zab))(s0_0:Int):HT ((Int×Int) ⊕ Unit) := .both 11 (.ex (zab) fun xa1 => .op 6 2 (.row (s0_0:Int).toNat (zab.enc xa1)) (.ex (Bool) fun ra2 => .op 6 5 (.call [] (.t (boo ra2)) []) (.both 20 (.ret [.keep [2,3] []] (.inl (s0_0,1))) (.bo 8 2 (.op 8 5 (.nw) (.ex (zab) fun xa3 => .op 8 6 (.row ((s0_0-1):Int).toNat (zab.enc xa3)) (.op 8 11 (.row (s0_0:Int).toNat (zab.enc xa1)) (.both 37 (.ret [.keep [2,3] []] (.inl (s0_0,7))) (.op 5 1 (.nw) (.round [.keep [0,4] []])))))) (.op 5 1 (.nw) (.round [.keep [0,4] []])))))) (.ret [.keep [0] []] (.inr ()))
theorem zbl_l0 {a0 Q0_ Q1_ s0_0} (h:zbl_w0 a0 (zbl_L0 a0 Q0_ Q1_) Q0_ Q1_ s0_0):zbl_L0 a0 Q0_ Q1_ s0_0:=LW_runT _ (zbl_h0 a0 s0_0) h (by kernel_rfl)
def zbl_R (v:Int×Int):A:=(.tup [(.t (i64 v.1)),(.t (i64 v.2))])
def zbl_O (v:Int×Int):List (Nat×O):=[]
def zbl_e (Q:(Int×Int)→Prop)(v:Int×Int):Prop:=Rt (zbl_R) (zbl_O) v (Q v)
def zbl_r (a0:(List zab))(v:Int×Int):Prop:=Con Tryz.prog 35 [(.t (.sl 2 ((a0:List zab).map zab.enc)))] [] (fun r_ o_=>r_=zbl_R v∧o_=zbl_O v)
def zbl_w (a0:(List zab))(Q_:(Int×Int)→Prop):Prop:=Br (decide ((lenM zab.enc a0)>64)) (zbl_e Q_ (0,2)) (zbl_L0 a0 (fun (y1:Int×Int)=>zbl_e Q_ (y1.1,y1.2)) (fun (y1:Unit)=>zbl_e Q_ ((lenM zab.enc a0),0)) 0)
def zbl_h (a0:(List zab)):HT (Int×Int) := .both 7 (.fin [] [] (0,2)) (.loop [.keep [0,4] []] (.out (Int×Int) .ret [.keep [2,3] []] (zbl_q0_0 a0) (fun y1 => .fin [] [] (y1.1,y1.2)) (.out (Unit) (.exit 0) [.keep [0] []] (zbl_q0_1 a0) (fun y1 => .fin [] [] ((lenM zab.enc a0),0)) (.nil))))
theorem zbl_of {a0 v} (h:zbl_w a0 (fun v_=>v_=v)):zbl_r a0 v:=Con_of1 Tryz.call35 Tryz.func35 [] (zbl_h a0) h
def zbw_s0 (a1:(List zab))(s0_0:(List zab))(s0_1:Int):St:=mkSt [(1,(.t (.sl 2 ((a1:List zab).map zab.enc)))),(6,(.t (.sl 2 ((s0_0:List zab).map zab.enc)))),(7,(.t (i64 s0_1)))] [] []
def zbw_q0_0 (a1:(List zab))(y:Unit):St:=mkSt [(4,(.t (.v (.slice none 0 0)))),(5,(.t (i64 20)))] [] []
def zbw_x0_0 (a1:(List zab))(Q:Unit→Prop)(y:Unit):Prop:=Lf .ret (zbw_q0_0 a1) y (Q y)
def zbw_q0_1 (a1:(List zab))(y:(List zab)):St:=mkSt [(6,(.t (.sl 2 ((y:List zab).map zab.enc))))] [] []
def zbw_x0_1 (a1:(List zab))(Q:(List zab)→Prop)(y:(List zab)):Prop:=Lf (.exit 0) (zbw_q0_1 a1) y (Q y)
def zbw_L0 (a1:(List zab))(Q0_:Unit→Prop)(Q1_:(List zab)→Prop)(s0_0:(List zab))(s0_1:Int):Prop:=LW Tryz.prog 45 (loopAt Tryz.f21 0) (Outs.K (.cons .ret [.keep [4,5] []] (zbw_q0_0 a1) Q0_ (.one (.exit 0) [.keep [6] []] (zbw_q0_1 a1) Q1_))) (zbw_s0 a1 s0_0 s0_1)
def zbw_w0 (a1:(List zab))(X_:(List zab)→Int→Prop)(Q0_:Unit→Prop)(Q1_:(List zab)→Prop)(s0_0:(List zab))(s0_1:Int):Prop:=Br (decide (s0_1<(lenM zab.enc a1))) (∃ xa1:zab,Got zab.enc a1 s0_1 xa1 (∃ ra2:Int,(zce_r s0_0 xa1.ISIN ra2)∧(Got zab.enc a1 s0_1 xa1 (Br (decide (ra2<xa1.Qty)) (zbw_x0_0 a1 Q0_ ()) (Got zab.enc a1 s0_1 xa1 (Got zab.enc a1 s0_1 xa1 (Num .i64 (ra2-xa1.Qty) (∃ ra3:(List zab),(zcj_r s0_0 xa1.ISIN (ra2-xa1.Qty) ra3)∧(Num .i64 (s0_1+1) (X_ ra3 (s0_1+1))))))))))) (zbw_x0_1 a1 Q1_ s0_0)
def zbw_h0 (a1:(List zab))(s0_0:(List zab))(s0_1:Int):HT (Unit ⊕ (List zab)) := .both 13 (.ex (zab) fun xa1 => .op 5 3 (.row (s0_1:Int).toNat (zab.enc xa1)) (.ex (Int) fun ra2 => .op 5 6 (.call [] (.t (i64 ra2)) []) (.op 6 3 (.row (s0_1:Int).toNat (zab.enc xa1)) (.both 29 (.ret [.keep [4,5] []] (.inl ())) (.op 8 3 (.row (s0_1:Int).toNat (zab.enc xa1)) (.op 8 9 (.row (s0_1:Int).toNat (zab.enc xa1)) (.op 8 12 (.nw) (.ex ((List zab)) fun ra3 => .op 8 13 (.call [] (.t (.sl 2 ((ra3:List zab).map zab.enc))) []) (.op 4 1 (.nw) (.round [.keep [1,6,7] []])))))))))) (.ret [.keep [6] []] (.inr s0_0))
theorem zbw_l0 {a1 Q0_ Q1_ s0_0 s0_1} (h:zbw_w0 a1 (zbw_L0 a1 Q0_ Q1_) Q0_ Q1_ s0_0 s0_1):zbw_L0 a1 Q0_ Q1_ s0_0 s0_1:=LW_runT _ (zbw_h0 a1 s0_0 s0_1) h (by kernel_rfl)
def zbw_R (v:(List zab)×Int):A:=(.tup [(.t (.sl 2 ((v.1:List zab).map zab.enc))),(.t (i64 v.2))])
def zbw_O (v:(List zab)×Int):List (Nat×O):=[]
def zbw_e (Q:((List zab)×Int)→Prop)(v:(List zab)×Int):Prop:=Rt (zbw_R) (zbw_O) v (Q v)
def zbw_r (a0:(List zab))(a1:(List zab))(v:(List zab)×Int):Prop:=Con Tryz.prog 21 [(.t (.sl 2 ((a0:List zab).map zab.enc))),(.t (.sl 2 ((a1:List zab).map zab.enc)))] [] (fun r_ o_=>r_=zbw_R v∧o_=zbw_O v)
def zbw_w (a0:(List zab))(a1:(List zab))(Q_:((List zab)×Int)→Prop):Prop:=zbw_L0 a1 (fun (y1:Unit)=>zbw_e Q_ ([],20)) (fun (y1:(List zab))=>zbw_e Q_ (y1,0)) a0 0
def zbw_h (a0:(List zab))(a1:(List zab)):HT ((List zab)×Int) := .loop [.keep [1,6,7] []] (.out (Unit) .ret [.keep [4,5] []] (zbw_q0_0 a1) (fun y1 => .fin [] [([0],2)] ([],20)) (.out ((List zab)) (.exit 0) [.keep [6] []] (zbw_q0_1 a1) (fun y1 => .fin [] [] (y1,0)) (.nil)))
theorem zbw_of {a0 a1 v} (h:zbw_w a0 a1 (fun v_=>v_=v)):zbw_r a0 a1 v:=Con_of1 Tryz.call21 Tryz.func21 [] (zbw_h a0 a1) h
def zbs_s0 (a0:(List zae))(a2:(List zab))(a1:zbn)(s0_0:Int)(s0_1:(List zac)):St:=mkSt [(0,(.t (.sl 6 ((a0:List zae).map zae.enc)))),(2,(.t (.sl 2 ((a2:List zab).map zab.enc)))),(4,(.at 4 0)),(8,(.ref 45)),(9,(.t (i64 s0_0)))] [(4,(.box [(.t (i64 a1.Basket.ID)),(.t (i64 a1.Basket.Version)),(.t (str a1.Basket.Currency)),(.t (i64 a1.Basket.Rating)),(.t (i64 a1.Basket.Least)),(.t (i64 a1.Basket.Most)),(.t (.sl 3 ((a1.Basket.Cuts:List zbp).map zbp.enc))),(.t (i64 a1.Basket.Issuer)),(.t (i64 a1.Basket.Asset)),(.t (.sl 1 ((a1.Basket.Barred:List Int).map eN))),(.t (i64 a1.Need)),(.t (.sl 2 ((a1.Have:List zab).map zab.enc))),(.t (i64 a1.Day))])),(45,(.row 9 ((s0_1:List zac).map zac.enc)))] []
def zbs_q0_0 (a0:(List zae))(a2:(List zab))(a1:zbn)(y:Int):St:=mkSt [(6,(.t (.v (.slice none 0 0)))),(7,(.t (i64 y)))] [] []
def zbs_x0_0 (a0:(List zae))(a2:(List zab))(a1:zbn)(Q:Int→Prop)(y:Int):Prop:=Lf .ret (zbs_q0_0 a0 a2 a1) y (Q y)
def zbs_q0_1 (a0:(List zae))(a2:(List zab))(a1:zbn)(y:(List zac)):St:=mkSt [(8,(.ref 45))] [(45,(.row 9 ((y:List zac).map zac.enc)))] []
def zbs_x0_1 (a0:(List zae))(a2:(List zab))(a1:zbn)(Q:(List zac)→Prop)(y:(List zac)):Prop:=Lf (.exit 0) (zbs_q0_1 a0 a2 a1) y (Q y)
def zbs_L0 (a0:(List zae))(a2:(List zab))(a1:zbn)(Q0_:Int→Prop)(Q1_:(List zac)→Prop)(s0_0:Int)(s0_1:(List zac)):Prop:=LW Tryz.prog 47 (loopAt Tryz.f38 0) (Outs.K (.cons .ret [.keep [6,7] []] (zbs_q0_0 a0 a2 a1) Q0_ (.one (.exit 0) [.keep [8] [45]] (zbs_q0_1 a0 a2 a1) Q1_))) (zbs_s0 a0 a2 a1 s0_0 s0_1)
def zbs_w0 (a0:(List zae))(a2:(List zab))(a1:zbn)(X_:Int→(List zac)→Prop)(Q0_:Int→Prop)(Q1_:(List zac)→Prop)(s0_0:Int)(s0_1:(List zac)):Prop:=Br (decide (s0_0<(lenM zab.enc a2))) (∃ xa1:zab,Got zab.enc a2 s0_0 xa1 (∃ ra2:zac×Int,(zeg_r a0 a1.Basket xa1 a1.Day ra2)∧(Br (ra2.2 != 0) (zbs_x0_0 a0 a2 a1 Q0_ ra2.2) (∃ ra3:Int,(zei_r a1.Basket ra2.1.Asset a1.Day ra3)∧(Br (ra3 != 0) (zbs_x0_0 a0 a2 a1 Q0_ 23) (App2 96 zac.enc s0_1 [ra2.1] (Num .i64 (s0_0+1) (X_ (s0_0+1) (s0_1++[ra2.1]))))))))) (zbs_x0_1 a0 a2 a1 Q1_ s0_1)
def zbs_h0 (a0:(List zae))(a2:(List zab))(a1:zbn)(s0_0:Int)(s0_1:(List zac)):HT (Int ⊕ (List zac)) := .both 15 (.ex (zab) fun xa1 => .op 5 5 (.row (s0_0:Int).toNat (zab.enc xa1)) (.ex (zac×Int) fun ra2 => .op 5 9 (.call [] (.tup [(.agg [(.t (str ra2.1.Lot.ISIN)),(.t (i64 ra2.1.Lot.Qty)),(.t (str ra2.1.Asset.ISIN)),(.t (i64 ra2.1.Asset.Issuer)),(.t (i64 ra2.1.Asset.Rating)),(.t (i64 ra2.1.Asset.Maturity)),(.t (str ra2.1.Asset.Currency)),(.t (i64 ra2.1.Price)),(.t (i64 ra2.1.Cut))]),(.t (i64 ra2.2))]) []) (.both 32 (.ret [.keep [6,7] []] (.inl ra2.2)) (.ex (Int) fun ra3 => .op 8 6 (.call [] (.t (i64 ra3)) []) (.both 41 (.ret [.keep [6,7] []] (.inl 23)) (.op 10 3 (.no) (.rw 45 (((s0_1++[ra2.1]):List zac).map zac.enc) (.op 4 1 (.nw) (.round [.keep [0,2,4,8,9] [4,45]]))))))))) (.ret [.keep [8] [45]] (.inr s0_1))
theorem zbs_l0 {a0 a2 a1 Q0_ Q1_ s0_0 s0_1} (h:zbs_w0 a0 a2 a1 (zbs_L0 a0 a2 a1 Q0_ Q1_) Q0_ Q1_ s0_0 s0_1):zbs_L0 a0 a2 a1 Q0_ Q1_ s0_0 s0_1:=LW_runT _ (zbs_h0 a0 a2 a1 s0_0 s0_1) h (by kernel_rfl)
def zbs_R (v:(List zac)×Int):A:=(.tup [(.t (.sl 9 ((v.1:List zac).map zac.enc))),(.t (i64 v.2))])
def zbs_O (v:(List zac)×Int):List (Nat×O):=[]
def zbs_e (Q:((List zac)×Int)→Prop)(v:(List zac)×Int):Prop:=Rt (zbs_R) (zbs_O) v (Q v)
def zbs_r (a0:(List zae))(a1:zbn)(a2:(List zab))(v:(List zac)×Int):Prop:=Con Tryz.prog 38 [(.t (.sl 6 ((a0:List zae).map zae.enc))),(.agg [(.t (i64 a1.Basket.ID)),(.t (i64 a1.Basket.Version)),(.t (str a1.Basket.Currency)),(.t (i64 a1.Basket.Rating)),(.t (i64 a1.Basket.Least)),(.t (i64 a1.Basket.Most)),(.t (.sl 3 ((a1.Basket.Cuts:List zbp).map zbp.enc))),(.t (i64 a1.Basket.Issuer)),(.t (i64 a1.Basket.Asset)),(.t (.sl 1 ((a1.Basket.Barred:List Int).map eN))),(.t (i64 a1.Need)),(.t (.sl 2 ((a1.Have:List zab).map zab.enc))),(.t (i64 a1.Day))]),(.t (.sl 2 ((a2:List zab).map zab.enc)))] [] (fun r_ o_=>r_=zbs_R v∧o_=zbs_O v)
def zbs_w (a0:(List zae))(a1:zbn)(a2:(List zab))(Q_:((List zac)×Int)→Prop):Prop:=zbs_L0 a0 a2 a1 (fun (y1:Int)=>zbs_e Q_ ([],y1)) (fun (y1:(List zac))=>zbs_e Q_ (y1,0)) 0 []
def zbs_h (a0:(List zae))(a1:zbn)(a2:(List zab)):HT ((List zac)×Int) := .loop [.own 8 45 9, .keep [0,2,4,8,9] [4,45]] (.out (Int) .ret [.keep [6,7] []] (zbs_q0_0 a0 a2 a1) (fun y1 => .fin [] [([0],9)] ([],y1)) (.out ((List zac)) (.exit 0) [.keep [8] [45]] (zbs_q0_1 a0 a2 a1) (fun y1 => .fin [] [] (y1,0)) (.nil)))
theorem zbs_of {a0 a1 a2 v} (h:zbs_w a0 a1 a2 (fun v_=>v_=v)):zbs_r a0 a1 a2 v:=Con_of1 Tryz.call38 Tryz.func38 [] (zbs_h a0 a1 a2) h
def zem_R (v:Bool):A:=(.t (boo v))
def zem_O (v:Bool):List (Nat×O):=[]
def zem_e (Q:Bool→Prop)(v:Bool):Prop:=Rt (zem_R) (zem_O) v (Q v)
def zem_r (a0:Int)(a1:Int)(v:Bool):Prop:=Con Tryz.prog 139 [(.t (i64 a0)),(.t (i64 a1))] [] (fun r_ o_=>r_=zem_R v∧o_=zem_O v)
def zem_w (a0:Int)(a1:Int)(Q_:Bool→Prop):Prop:=Br (decide (a0≥1)) (Br (decide (a0≤4294967296)) (Br (decide (a1≥0)) (zem_e Q_ (decide (a1<1000000))) (zem_e Q_ false)) (zem_e Q_ false)) (zem_e Q_ false)
def zem_h (a0:Int)(a1:Int):HT Bool := .bo 1 2 (.bo 1 6 (.bo 1 10 (.fin [] [] (decide (a1<1000000))) (.fin [] [] false)) (.fin [] [] false)) (.fin [] [] false)
theorem zem_of {a0 a1 v} (h:zem_w a0 a1 (fun v_=>v_=v)):zem_r a0 a1 v:=Con_of1 Tryz.call139 Tryz.func139 [] (zem_h a0 a1) h
def zej_R (v:Int×Int):A:=(.tup [(.t (i64 v.1)),(.t (i64 v.2))])
def zej_O (v:Int×Int):List (Nat×O):=[]
def zej_e (Q:(Int×Int)→Prop)(v:Int×Int):Prop:=Rt (zej_R) (zej_O) v (Q v)
def zej_r (a0:Int)(a1:Int)(v:Int×Int):Prop:=Con Tryz.prog 140 [(.t (i64 a0)),(.t (i64 a1))] [] (fun r_ o_=>r_=zej_R v∧o_=zej_O v)
def zej_w (a0:Int)(a1:Int)(Q_:(Int×Int)→Prop):Prop:=Br (decide (a0<0)) (zej_e Q_ (0,1)) (Br (decide (a0>1125899906842624)) (zej_e Q_ (0,1)) (Br (decide (a1<1)) (zej_e Q_ (0,1)) (Br (decide (a1>4294967296)) (zej_e Q_ (0,1)) (∃ r1:Int×Int,(zak_r a0 a1 1000000 1 r1)∧(zej_e Q_ (r1.1,r1.2))))))
def zej_h (a0:Int)(a1:Int):HT (Int×Int) := .bo 1 2 (.fin [] [] (0,1)) (.bo 1 6 (.fin [] [] (0,1)) (.bo 1 10 (.fin [] [] (0,1)) (.both 19 (.fin [] [] (0,1)) (.ex (Int×Int) fun r1 => .op 3 2 (.call [] (.tup [(.t (i64 r1.1)),(.t (i64 r1.2))]) []) (.fin [] [] (r1.1,r1.2))))))
theorem zej_of {a0 a1 v} (h:zej_w a0 a1 (fun v_=>v_=v)):zej_r a0 a1 v:=Con_of1 Tryz.call140 Tryz.func140 [] (zej_h a0 a1) h
def zdz_R (v:Int×Int):A:=(.tup [(.t (i64 v.1)),(.t (i64 v.2))])
def zdz_O (v:Int×Int):List (Nat×O):=[]
def zdz_e (Q:(Int×Int)→Prop)(v:Int×Int):Prop:=Rt (zdz_R) (zdz_O) v (Q v)
def zdz_r (a0:Int)(a1:Int)(a2:Int)(v:Int×Int):Prop:=Con Tryz.prog 86 [(.t (i64 a0)),(.t (i64 a1)),(.t (i64 a2))] [] (fun r_ o_=>r_=zdz_R v∧o_=zdz_O v)
def zdz_w (a0:Int)(a1:Int)(a2:Int)(Q_:(Int×Int)→Prop):Prop:=∃ r1:Bool,(zem_r a1 a2 r1)∧(Br (!r1) (zdz_e Q_ (0,1)) (∃ r2:Int×Int,(zej_r a0 a1 r2)∧(Br (r2.2 != 0) (zdz_e Q_ (0,r2.2)) (Num .i64 (1000000-a2) (∃ r3:Int×Int,(zak_r r2.1 (1000000-a2) 1000000 1 r3)∧(zdz_e Q_ (r3.1,r3.2)))))))
def zdz_h (a0:Int)(a1:Int)(a2:Int):HT (Int×Int) := .ex (Bool) fun r1 => .op 1 2 (.call [] (.t (boo r1)) []) (.both 13 (.fin [] [] (0,1)) (.ex (Int×Int) fun r2 => .op 3 2 (.call [] (.tup [(.t (i64 r2.1)),(.t (i64 r2.2))]) []) (.both 21 (.fin [] [] (0,r2.2)) (.op 6 2 (.nw) (.ex (Int×Int) fun r3 => .op 6 3 (.call [] (.tup [(.t (i64 r3.1)),(.t (i64 r3.2))]) []) (.fin [] [] (r3.1,r3.2)))))))
theorem zdz_of {a0 a1 a2 v} (h:zdz_w a0 a1 a2 (fun v_=>v_=v)):zdz_r a0 a1 a2 v:=Con_of1 Tryz.call86 Tryz.func86 [] (zdz_h a0 a1 a2) h
def zar_s1 (a0:(List zac))(s0_0:Int)(s1_0:Int):St:=mkSt [(0,(.t (.sl 9 ((a0:List zac).map zac.enc)))),(3,(.t (i64 s0_0))),(6,(.t (i64 s1_0)))] [] []
def zar_q1_0 (a0:(List zac))(s0_0:Int)(y:Unit):St:=mkSt [(2,(.t (i64 7)))] [] []
def zar_x1_0 (a0:(List zac))(s0_0:Int)(Q:Unit→Prop)(y:Unit):Prop:=Lf .ret (zar_q1_0 a0 s0_0) y (Q y)
def zar_q1_1 (a0:(List zac))(s0_0:Int)(y:Unit):St:=mkSt [(0,(.t (.sl 9 ((a0:List zac).map zac.enc)))),(3,(.t (i64 s0_0)))] [] []
def zar_x1_1 (a0:(List zac))(s0_0:Int)(Q:Unit→Prop)(y:Unit):Prop:=Lf (.exit 2) (zar_q1_1 a0 s0_0) y (Q y)
def zar_L1 (a0:(List zac))(s0_0:Int)(Q0_:Unit→Prop)(Q1_:Unit→Prop)(s1_0:Int):Prop:=LW Tryz.prog 80 (loopAt Tryz.f77 1) (Outs.K (.cons .ret [.keep [2] []] (zar_q1_0 a0 s0_0) Q0_ (.one (.exit 2) [.keep [0,3] []] (zar_q1_1 a0 s0_0) Q1_))) (zar_s1 a0 s0_0 s1_0)
def zar_w1 (a0:(List zac))(s0_0:Int)(X_:Int→Prop)(Q0_:Unit→Prop)(Q1_:Unit→Prop)(s1_0:Int):Prop:=Br (decide (s1_0<s0_0)) (∃ xb1:zac,Got zac.enc a0 s1_0 xb1 (∃ xb2:zac,Got zac.enc a0 s0_0 xb2 (Br (strEq xb1.Asset.ISIN xb2.Asset.ISIN) (zar_x1_0 a0 s0_0 Q0_ ()) (Num .i64 (s1_0+1) (X_ (s1_0+1)))))) (zar_x1_1 a0 s0_0 Q1_ ())
def zar_h1 (a0:(List zac))(s0_0:Int)(s1_0:Int):HT (Unit ⊕ Unit) := .both 64 (.ex (zac) fun xb1 => .op 16 2 (.row (s1_0:Int).toNat (zac.enc xb1)) (.ex (zac) fun xb2 => .op 16 8 (.row (s0_0:Int).toNat (zac.enc xb2)) (.both 79 (.ret [.keep [2] []] (.inl ())) (.op 15 1 (.nw) (.round [.keep [0,3,6] []]))))) (.ret [.keep [0,3] []] (.inr ()))
theorem zar_l1 {a0 s0_0 Q0_ Q1_ s1_0} (h:zar_w1 a0 s0_0 (zar_L1 a0 s0_0 Q0_ Q1_) Q0_ Q1_ s1_0):zar_L1 a0 s0_0 Q0_ Q1_ s1_0:=LW_runT _ (zar_h1 a0 s0_0 s1_0) h (by kernel_rfl)
def zar_s0 (a0:(List zac))(s0_0:Int):St:=mkSt [(0,(.t (.sl 9 ((a0:List zac).map zac.enc)))),(3,(.t (i64 s0_0)))] [] []
def zar_q0_0 (a0:(List zac))(y:Int):St:=mkSt [(2,(.t (i64 y)))] [] []
def zar_x0_0 (a0:(List zac))(Q:Int→Prop)(y:Int):Prop:=Lf .ret (zar_q0_0 a0) y (Q y)
def zar_q0_1 (a0:(List zac))(y:Unit):St:=mkSt [] [] []
def zar_x0_1 (a0:(List zac))(Q:Unit→Prop)(y:Unit):Prop:=Lf (.exit 0) (zar_q0_1 a0) y (Q y)
def zar_L0 (a0:(List zac))(Q0_:Int→Prop)(Q1_:Unit→Prop)(s0_0:Int):Prop:=LW Tryz.prog 80 (loopAt Tryz.f77 0) (Outs.K (.cons .ret [.keep [2] []] (zar_q0_0 a0) Q0_ (.one (.exit 0) [.keep [] []] (zar_q0_1 a0) Q1_))) (zar_s0 a0 s0_0)
def zar_w0 (a0:(List zac))(X_:Int→Prop)(Q0_:Int→Prop)(Q1_:Unit→Prop)(s0_0:Int):Prop:=Br (decide (s0_0<(lenM zac.enc a0))) (∃ xa1:zac,Got zac.enc a0 s0_0 xa1 (Got zac.enc a0 s0_0 xa1 (Got zac.enc a0 s0_0 xa1 (∃ ra2:Int×Int,(zdz_r xa1.Lot.Qty xa1.Price xa1.Cut ra2)∧(Br (ra2.2 != 0) (zar_x0_0 a0 Q0_ 1) (Got zac.enc a0 s0_0 xa1 (Br (xa1.Lot.Qty==0) (zar_x0_0 a0 Q0_ 1) (Br (decide (ra2.1>1125899906842624)) (zar_x0_0 a0 Q0_ 9) (Got zac.enc a0 s0_0 xa1 (Got zac.enc a0 s0_0 xa1 (Br (!strEq xa1.Asset.ISIN xa1.Lot.ISIN) (zar_x0_0 a0 Q0_ 7) (zar_L1 a0 s0_0 (fun (ya3:Unit)=>zar_x0_0 a0 Q0_ 7) (fun (ya3:Unit)=>Num .i64 (s0_0+1) (X_ (s0_0+1))) 0)))))))))))) (zar_x0_1 a0 Q1_ ())
def zar_h0 (a0:(List zac))(s0_0:Int):HT (Int ⊕ Unit) := .both 13 (.ex (zac) fun xa1 => .op 6 2 (.row (s0_0:Int).toNat (zac.enc xa1)) (.op 6 8 (.row (s0_0:Int).toNat (zac.enc xa1)) (.op 6 13 (.row (s0_0:Int).toNat (zac.enc xa1)) (.ex (Int×Int) fun ra2 => .op 6 16 (.call [] (.tup [(.t (i64 ra2.1)),(.t (i64 ra2.2))]) []) (.bo 7 2 (.ret [.keep [2] []] (.inl 1)) (.op 7 5 (.row (s0_0:Int).toNat (zac.enc xa1)) (.both 46 (.ret [.keep [2] []] (.inl 1)) (.both 48 (.ret [.keep [2] []] (.inl 9)) (.op 11 2 (.row (s0_0:Int).toNat (zac.enc xa1)) (.op 11 8 (.row (s0_0:Int).toNat (zac.enc xa1)) (.both 61 (.ret [.keep [2] []] (.inl 7)) (.loop [.keep [0,3,6] []] (.out (Unit) .ret [.keep [2] []] (zar_q1_0 a0 s0_0) (fun ya3 => .ret [.keep [2] []] (.inl 7)) (.out (Unit) (.exit 2) [.keep [0,3] []] (zar_q1_1 a0 s0_0) (fun ya3 => .op 5 1 (.nw) (.round [.keep [0,3] []])) (.nil))))))))))))))) (.ret [.keep [] []] (.inr ()))
theorem zar_l0 {a0 Q0_ Q1_ s0_0} (h:zar_w0 a0 (zar_L0 a0 Q0_ Q1_) Q0_ Q1_ s0_0):zar_L0 a0 Q0_ Q1_ s0_0:=LW_runT _ (zar_h0 a0 s0_0) h (by kernel_rfl)
def zar_R (v:Int):A:=(.t (i64 v))
def zar_O (v:Int):List (Nat×O):=[]
def zar_e (Q:Int→Prop)(v:Int):Prop:=Rt (zar_R) (zar_O) v (Q v)
def zar_r (a0:(List zac))(v:Int):Prop:=Con Tryz.prog 77 [(.t (.sl 9 ((a0:List zac).map zac.enc)))] [] (fun r_ o_=>r_=zar_R v∧o_=zar_O v)
def zar_w (a0:(List zac))(Q_:Int→Prop):Prop:=Br (decide ((lenM zac.enc a0)>64)) (zar_e Q_ 2) (zar_L0 a0 (fun (y1:Int)=>zar_e Q_ y1) (fun (y1:Unit)=>zar_e Q_ 0) 0)
def zar_h (a0:(List zac)):HT Int := .both 9 (.fin [] [] 2) (.loop [.keep [0,3] []] (.out (Int) .ret [.keep [2] []] (zar_q0_0 a0) (fun y1 => .fin [] [] y1) (.out (Unit) (.exit 0) [.keep [] []] (zar_q0_1 a0) (fun y1 => .fin [] [] 0) (.nil))))
theorem zar_of {a0 v} (h:zar_w a0 (fun v_=>v_=v)):zar_r a0 v:=Con_of1 Tryz.call77 Tryz.func77 [] (zar_h a0) h
def zea_R (v:zah×Int):A:=(.tup [(.agg [(.t (i64 v.1.Need)),(.t (i64 v.1.Issuer)),(.t (i64 v.1.Asset)),(.t (.sl 3 ((v.1.L:List zaj).map zaj.enc)))]),(.t (i64 v.2))])
def zea_O (v:zah×Int):List (Nat×O):=[]
def zea_e (Q:(zah×Int)→Prop)(v:zah×Int):Prop:=Rt (zea_R) (zea_O) v (Q v)
def zea_r (a0:zav)(a1:Int)(v:zah×Int):Prop:=Con Tryz.prog 76 [(.agg [(.t (i64 a0.ID)),(.t (i64 a0.Version)),(.t (str a0.Currency)),(.t (i64 a0.Rating)),(.t (i64 a0.Least)),(.t (i64 a0.Most)),(.t (.sl 3 ((a0.Cuts:List zbp).map zbp.enc))),(.t (i64 a0.Issuer)),(.t (i64 a0.Asset)),(.t (.sl 1 ((a0.Barred:List Int).map eN)))]),(.t (i64 a1))] [] (fun r_ o_=>r_=zea_R v∧o_=zea_O v)
def zea_w (a0:zav)(a1:Int)(Q_:(zah×Int)→Prop):Prop:=Br (decide (a1<0)) (zea_e Q_ ((⟨0,0,0,[]⟩:zah),1)) (Br (decide (a1>1125899906842624)) (zea_e Q_ ((⟨0,0,0,[]⟩:zah),1)) (Br (decide (a0.Issuer<0)) (zea_e Q_ ((⟨0,0,0,[]⟩:zah),1)) (Br (decide (a0.Issuer>1000000)) (zea_e Q_ ((⟨0,0,0,[]⟩:zah),1)) (Br (decide (a0.Asset<0)) (zea_e Q_ ((⟨0,0,0,[]⟩:zah),1)) (Br (decide (a0.Asset>1000000)) (zea_e Q_ ((⟨0,0,0,[]⟩:zah),1)) (∃ r1:Int×Int,(zak_r a1 a0.Issuer 1000000 1 r1)∧(∃ r2:Int×Int,(zak_r a1 a0.Asset 1000000 1 r2)∧(zea_e Q_ ((⟨a1,r1.1,r2.1,[]⟩:zah),0)))))))))
def zea_h (a0:zav)(a1:Int):HT (zah×Int) := .bo 1 2 (.op 2 0 (.nilv [([3],3)]) (.fin [] [] ((⟨0,0,0,[]⟩:zah),1))) (.bo 1 6 (.op 2 0 (.nilv [([3],3)]) (.fin [] [] ((⟨0,0,0,[]⟩:zah),1))) (.bo 1 11 (.op 2 0 (.nilv [([3],3)]) (.fin [] [] ((⟨0,0,0,[]⟩:zah),1))) (.bo 1 16 (.op 2 0 (.nilv [([3],3)]) (.fin [] [] ((⟨0,0,0,[]⟩:zah),1))) (.bo 1 21 (.op 2 0 (.nilv [([3],3)]) (.fin [] [] ((⟨0,0,0,[]⟩:zah),1))) (.both 35 (.op 2 0 (.nilv [([3],3)]) (.fin [] [] ((⟨0,0,0,[]⟩:zah),1))) (.ex (Int×Int) fun r1 => .op 3 3 (.call [] (.tup [(.t (i64 r1.1)),(.t (i64 r1.2))]) []) (.ex (Int×Int) fun r2 => .op 4 3 (.call [] (.tup [(.t (i64 r2.1)),(.t (i64 r2.2))]) []) (.op 5 3 (.nilv [([3],3)]) (.fin [] [] ((⟨a1,r1.1,r2.1,[]⟩:zah),0))))))))))
theorem zea_of {a0 a1 v} (h:zea_w a0 a1 (fun v_=>v_=v)):zea_r a0 a1 v:=Con_of1 Tryz.call76 Tryz.func76 [] (zea_h a0 a1) h
def zbz_R (v:Int):A:=(.t (i64 v))
def zbz_O (v:Int):List (Nat×O):=[]
def zbz_e (Q:Int→Prop)(v:Int):Prop:=Rt (zbz_R) (zbz_O) v (Q v)
def zbz_r (a0:zac)(v:Int):Prop:=Con Tryz.prog 84 [(.agg [(.t (str a0.Lot.ISIN)),(.t (i64 a0.Lot.Qty)),(.t (str a0.Asset.ISIN)),(.t (i64 a0.Asset.Issuer)),(.t (i64 a0.Asset.Rating)),(.t (i64 a0.Asset.Maturity)),(.t (str a0.Asset.Currency)),(.t (i64 a0.Price)),(.t (i64 a0.Cut))])] [] (fun r_ o_=>r_=zbz_R v∧o_=zbz_O v)
def zbz_w (a0:zac)(Q_:Int→Prop):Prop:=∃ r1:Int×Int,(zdz_r a0.Lot.Qty a0.Price a0.Cut r1)∧(zbz_e Q_ r1.1)
def zbz_h (a0:zac):HT Int := .ex (Int×Int) fun r1 => .op 1 7 (.call [] (.tup [(.t (i64 r1.1)),(.t (i64 r1.2))]) []) (.fin [] [] r1.1)
theorem zbz_of {a0 v} (h:zbz_w a0 (fun v_=>v_=v)):zbz_r a0 v:=Con_of1 Tryz.call84 Tryz.func84 [] (zbz_h a0) h
def zdw_R (v:zah):A:=(.agg [(.t (i64 v.Need)),(.t (i64 v.Issuer)),(.t (i64 v.Asset)),(.t (.sl 3 ((v.L:List zaj).map zaj.enc)))])
def zdw_O (v:zah):List (Nat×O):=[]
def zdw_e (Q:zah→Prop)(v:zah):Prop:=Rt (zdw_R) (zdw_O) v (Q v)
def zdw_r (a0:zah)(a1:zag)(a2:Int)(v:zah):Prop:=Con Tryz.prog 144 [(.agg [(.t (i64 a0.Need)),(.t (i64 a0.Issuer)),(.t (i64 a0.Asset)),(.t (.sl 3 ((a0.L:List zaj).map zaj.enc)))]),(.agg [(.t (str a1.ISIN)),(.t (i64 a1.Issuer)),(.t (i64 a1.Rating)),(.t (i64 a1.Maturity)),(.t (str a1.Currency))]),(.t (i64 a2))] [] (fun r_ o_=>r_=zdw_R v∧o_=zdw_O v)
def zdw_w (a0:zah)(a1:zag)(a2:Int)(Q_:zah→Prop):Prop:=ApZ 32 zaj.enc a0.L (App2 32 zaj.enc a0.L [(⟨a1.Issuer,a1.ISIN,a2⟩:zaj)] (zdw_e Q_ (⟨a0.Need,a0.Issuer,a0.Asset,(a0.L++[(⟨a1.Issuer,a1.ISIN,a2⟩:zaj)])⟩:zah)))
def zdw_h (a0:zah)(a1:zag)(a2:Int):HT zah := .op 1 3 (.no) (.op 1 11 (.no) (.rw 18 (((a0.L++[(⟨a1.Issuer,a1.ISIN,a2⟩:zaj)]):List zaj).map zaj.enc) (.fin [] [] (⟨a0.Need,a0.Issuer,a0.Asset,(a0.L++[(⟨a1.Issuer,a1.ISIN,a2⟩:zaj)])⟩:zah))))
theorem zdw_of {a0 a1 a2 v} (h:zdw_w a0 a1 a2 (fun v_=>v_=v)):zdw_r a0 a1 a2 v:=Con_of1 Tryz.call144 Tryz.func144 [] (zdw_h a0 a1 a2) h
def zay_s0 (a1:Int)(a0:zah)(s0_0:Int)(s0_1:Int):St:=mkSt [(1,(.t (i64 a1))),(2,(.at 2 0)),(5,(.t (i64 s0_0))),(6,(.t (i64 s0_1)))] [(2,(.box [(.t (i64 a0.Need)),(.t (i64 a0.Issuer)),(.t (i64 a0.Asset)),(.t (.sl 3 ((a0.L:List zaj).map zaj.enc)))]))] []
def zay_q0_0 (a1:Int)(a0:zah)(y:Int):St:=mkSt [(5,(.t (i64 y)))] [] []
def zay_x0_0 (a1:Int)(a0:zah)(Q:Int→Prop)(y:Int):Prop:=Lf (.exit 0) (zay_q0_0 a1 a0) y (Q y)
def zay_L0 (a1:Int)(a0:zah)(Q0_:Int→Prop)(s0_0:Int)(s0_1:Int):Prop:=LW Tryz.prog 31 (loopAt Tryz.f175 0) (Outs.K (.one (.exit 0) [.keep [5] []] (zay_q0_0 a1 a0) Q0_)) (zay_s0 a1 a0 s0_0 s0_1)
def zay_w0 (a1:Int)(a0:zah)(X_:Int→Int→Prop)(Q0_:Int→Prop)(s0_0:Int)(s0_1:Int):Prop:=Br (decide (s0_1<(lenM zaj.enc a0.L))) (∃ xa1:zaj,Got zaj.enc a0.L s0_1 xa1 (Br (xa1.Issuer==a1) (Got zaj.enc a0.L s0_1 xa1 (Num .i64 (s0_0+xa1.Cover) (Num .i64 (s0_1+1) (X_ (s0_0+xa1.Cover) (s0_1+1))))) (Num .i64 (s0_1+1) (X_ s0_0 (s0_1+1))))) (zay_x0_0 a1 a0 Q0_ s0_0)
def zay_h0 (a1:Int)(a0:zah)(s0_0:Int)(s0_1:Int):HT Int := .both 11 (.ex (zaj) fun xa1 => .op 5 3 (.row (s0_1:Int).toNat (zaj.enc xa1)) (.both 21 (.op 6 4 (.row (s0_1:Int).toNat (zaj.enc xa1)) (.op 6 7 (.nw) (.op 4 1 (.nw) (.round [.keep [1,2,5,6] [2]])))) (.op 4 1 (.nw) (.round [.keep [1,2,5,6] [2]])))) (.ret [.keep [5] []] s0_0)
theorem zay_l0 {a1 a0 Q0_ s0_0 s0_1} (h:zay_w0 a1 a0 (zay_L0 a1 a0 Q0_) Q0_ s0_0 s0_1):zay_L0 a1 a0 Q0_ s0_0 s0_1:=LW_runT _ (zay_h0 a1 a0 s0_0 s0_1) h (by kernel_rfl)
def zay_R (v:Int):A:=(.t (i64 v))
def zay_O (v:Int):List (Nat×O):=[]
def zay_e (Q:Int→Prop)(v:Int):Prop:=Rt (zay_R) (zay_O) v (Q v)
def zay_r (a0:zah)(a1:Int)(v:Int):Prop:=Con Tryz.prog 175 [(.agg [(.t (i64 a0.Need)),(.t (i64 a0.Issuer)),(.t (i64 a0.Asset)),(.t (.sl 3 ((a0.L:List zaj).map zaj.enc)))]),(.t (i64 a1))] [] (fun r_ o_=>r_=zay_R v∧o_=zay_O v)
def zay_w (a0:zah)(a1:Int)(Q_:Int→Prop):Prop:=zay_L0 a1 a0 (fun (y1:Int)=>zay_e Q_ y1) 0 0
def zay_h (a0:zah)(a1:Int):HT Int := .loop [.keep [1,2,5,6] [2]] (.out (Int) (.exit 0) [.keep [5] []] (zay_q0_0 a1 a0) (fun y1 => .fin [] [] y1) (.nil))
theorem zay_of {a0 a1 v} (h:zay_w a0 a1 (fun v_=>v_=v)):zay_r a0 a1 v:=Con_of1 Tryz.call175 Tryz.func175 [] (zay_h a0 a1) h
def zba_s0 (a1:ByteArray)(a0:zah)(s0_0:Int)(s0_1:Int):St:=mkSt [(1,(.t (str a1))),(2,(.at 2 0)),(5,(.t (i64 s0_0))),(6,(.t (i64 s0_1)))] [(2,(.box [(.t (i64 a0.Need)),(.t (i64 a0.Issuer)),(.t (i64 a0.Asset)),(.t (.sl 3 ((a0.L:List zaj).map zaj.enc)))]))] []
def zba_q0_0 (a1:ByteArray)(a0:zah)(y:Int):St:=mkSt [(5,(.t (i64 y)))] [] []
def zba_x0_0 (a1:ByteArray)(a0:zah)(Q:Int→Prop)(y:Int):Prop:=Lf (.exit 0) (zba_q0_0 a1 a0) y (Q y)
def zba_L0 (a1:ByteArray)(a0:zah)(Q0_:Int→Prop)(s0_0:Int)(s0_1:Int):Prop:=LW Tryz.prog 31 (loopAt Tryz.f176 0) (Outs.K (.one (.exit 0) [.keep [5] []] (zba_q0_0 a1 a0) Q0_)) (zba_s0 a1 a0 s0_0 s0_1)
def zba_w0 (a1:ByteArray)(a0:zah)(X_:Int→Int→Prop)(Q0_:Int→Prop)(s0_0:Int)(s0_1:Int):Prop:=Br (decide (s0_1<(lenM zaj.enc a0.L))) (∃ xa1:zaj,Got zaj.enc a0.L s0_1 xa1 (Br (strEq xa1.ISIN a1) (Got zaj.enc a0.L s0_1 xa1 (Num .i64 (s0_0+xa1.Cover) (Num .i64 (s0_1+1) (X_ (s0_0+xa1.Cover) (s0_1+1))))) (Num .i64 (s0_1+1) (X_ s0_0 (s0_1+1))))) (zba_x0_0 a1 a0 Q0_ s0_0)
def zba_h0 (a1:ByteArray)(a0:zah)(s0_0:Int)(s0_1:Int):HT Int := .both 11 (.ex (zaj) fun xa1 => .op 5 3 (.row (s0_1:Int).toNat (zaj.enc xa1)) (.both 21 (.op 6 4 (.row (s0_1:Int).toNat (zaj.enc xa1)) (.op 6 7 (.nw) (.op 4 1 (.nw) (.round [.keep [1,2,5,6] [2]])))) (.op 4 1 (.nw) (.round [.keep [1,2,5,6] [2]])))) (.ret [.keep [5] []] s0_0)
theorem zba_l0 {a1 a0 Q0_ s0_0 s0_1} (h:zba_w0 a1 a0 (zba_L0 a1 a0 Q0_) Q0_ s0_0 s0_1):zba_L0 a1 a0 Q0_ s0_0 s0_1:=LW_runT _ (zba_h0 a1 a0 s0_0 s0_1) h (by kernel_rfl)
def zba_R (v:Int):A:=(.t (i64 v))
def zba_O (v:Int):List (Nat×O):=[]
def zba_e (Q:Int→Prop)(v:Int):Prop:=Rt (zba_R) (zba_O) v (Q v)
def zba_r (a0:zah)(a1:ByteArray)(v:Int):Prop:=Con Tryz.prog 176 [(.agg [(.t (i64 a0.Need)),(.t (i64 a0.Issuer)),(.t (i64 a0.Asset)),(.t (.sl 3 ((a0.L:List zaj).map zaj.enc)))]),(.t (str a1))] [] (fun r_ o_=>r_=zba_R v∧o_=zba_O v)
def zba_w (a0:zah)(a1:ByteArray)(Q_:Int→Prop):Prop:=zba_L0 a1 a0 (fun (y1:Int)=>zba_e Q_ y1) 0 0
def zba_h (a0:zah)(a1:ByteArray):HT Int := .loop [.keep [1,2,5,6] [2]] (.out (Int) (.exit 0) [.keep [5] []] (zba_q0_0 a1 a0) (fun y1 => .fin [] [] y1) (.nil))
theorem zba_of {a0 a1 v} (h:zba_w a0 a1 (fun v_=>v_=v)):zba_r a0 a1 v:=Con_of1 Tryz.call176 Tryz.func176 [] (zba_h a0 a1) h
def zef_R (v:Int×Int):A:=(.tup [(.t (i64 v.1)),(.t (i64 v.2))])
def zef_O (v:Int×Int):List (Nat×O):=[]
def zef_e (Q:(Int×Int)→Prop)(v:Int×Int):Prop:=Rt (zef_R) (zef_O) v (Q v)
def zef_r (a0:Int)(a1:Int)(v:Int×Int):Prop:=Con Tryz.prog 138 [(.t (i64 a0)),(.t (i64 a1))] [] (fun r_ o_=>r_=zef_R v∧o_=zef_O v)
def zef_w (a0:Int)(a1:Int)(Q_:(Int×Int)→Prop):Prop:=Br (decide (a1>0)) (Num .i64 (9223372036854775807-a1) (Br (decide (a0>(9223372036854775807-a1))) (zef_e Q_ (0,9)) (Br (decide (a1<0)) (Num .i64 ((-9223372036854775808)-a1) (Br (decide (a0<((-9223372036854775808)-a1))) (zef_e Q_ (0,9)) (Num .i64 (a0+a1) (zef_e Q_ ((a0+a1),0))))) (Num .i64 (a0+a1) (zef_e Q_ ((a0+a1),0)))))) (Br (decide (a1<0)) (Num .i64 ((-9223372036854775808)-a1) (Br (decide (a0<((-9223372036854775808)-a1))) (zef_e Q_ (0,9)) (Num .i64 (a0+a1) (zef_e Q_ ((a0+a1),0))))) (Num .i64 (a0+a1) (zef_e Q_ ((a0+a1),0))))
def zef_h (a0:Int)(a1:Int):HT (Int×Int) := .bo 1 2 (.op 1 5 (.nw) (.bo 1 8 (.fin [] [] (0,9)) (.bo 1 11 (.op 1 14 (.nw) (.both 23 (.fin [] [] (0,9)) (.op 3 2 (.nw) (.fin [] [] ((a0+a1),0))))) (.op 3 2 (.nw) (.fin [] [] ((a0+a1),0)))))) (.bo 1 11 (.op 1 14 (.nw) (.both 23 (.fin [] [] (0,9)) (.op 3 2 (.nw) (.fin [] [] ((a0+a1),0))))) (.op 3 2 (.nw) (.fin [] [] ((a0+a1),0))))
theorem zef_of {a0 a1 v} (h:zef_w a0 a1 (fun v_=>v_=v)):zef_r a0 a1 v:=Con_of1 Tryz.call138 Tryz.func138 [] (zef_h a0 a1) h
def zbx_s0 (a0:(List zac))(s0_0:Int)(s0_1:Int):St:=mkSt [(0,(.t (.sl 9 ((a0:List zac).map zac.enc)))),(4,(.t (i64 s0_0))),(5,(.t (i64 s0_1)))] [] []
def zbx_q0_0 (a0:(List zac))(y:Int):St:=mkSt [(2,(.t (i64 0))),(3,(.t (i64 y)))] [] []
def zbx_x0_0 (a0:(List zac))(Q:Int→Prop)(y:Int):Prop:=Lf .ret (zbx_q0_0 a0) y (Q y)
def zbx_q0_1 (a0:(List zac))(y:Int):St:=mkSt [(4,(.t (i64 y)))] [] []
def zbx_x0_1 (a0:(List zac))(Q:Int→Prop)(y:Int):Prop:=Lf (.exit 0) (zbx_q0_1 a0) y (Q y)
def zbx_L0 (a0:(List zac))(Q0_:Int→Prop)(Q1_:Int→Prop)(s0_0:Int)(s0_1:Int):Prop:=LW Tryz.prog 29 (loopAt Tryz.f82 0) (Outs.K (.cons .ret [.keep [2,3] []] (zbx_q0_0 a0) Q0_ (.one (.exit 0) [.keep [4] []] (zbx_q0_1 a0) Q1_))) (zbx_s0 a0 s0_0 s0_1)
def zbx_w0 (a0:(List zac))(X_:Int→Int→Prop)(Q0_:Int→Prop)(Q1_:Int→Prop)(s0_0:Int)(s0_1:Int):Prop:=Br (decide (s0_1<(lenM zac.enc a0))) (∃ xa1:zac,Got zac.enc a0 s0_1 xa1 (∃ ra2:Int,(zbz_r xa1 ra2)∧(∃ ra3:Int×Int,(zef_r s0_0 ra2 ra3)∧(Br (ra3.2 != 0) (zbx_x0_0 a0 Q0_ ra3.2) (Num .i64 (s0_1+1) (X_ ra3.1 (s0_1+1))))))) (zbx_x0_1 a0 Q1_ s0_0)
def zbx_h0 (a0:(List zac))(s0_0:Int)(s0_1:Int):HT (Int ⊕ Int) := .both 11 (.ex (zac) fun xa1 => .op 5 3 (.row (s0_1:Int).toNat (zac.enc xa1)) (.ex (Int) fun ra2 => .op 5 5 (.call [] (.t (i64 ra2)) []) (.ex (Int×Int) fun ra3 => .op 5 6 (.call [] (.tup [(.t (i64 ra3.1)),(.t (i64 ra3.2))]) []) (.both 25 (.ret [.keep [2,3] []] (.inl ra3.2)) (.op 4 1 (.nw) (.round [.keep [0,4,5] []])))))) (.ret [.keep [4] []] (.inr s0_0))
theorem zbx_l0 {a0 Q0_ Q1_ s0_0 s0_1} (h:zbx_w0 a0 (zbx_L0 a0 Q0_ Q1_) Q0_ Q1_ s0_0 s0_1):zbx_L0 a0 Q0_ Q1_ s0_0 s0_1:=LW_runT _ (zbx_h0 a0 s0_0 s0_1) h (by kernel_rfl)
def zbx_R (v:Int×Int):A:=(.tup [(.t (i64 v.1)),(.t (i64 v.2))])
def zbx_O (v:Int×Int):List (Nat×O):=[]
def zbx_e (Q:(Int×Int)→Prop)(v:Int×Int):Prop:=Rt (zbx_R) (zbx_O) v (Q v)
def zbx_r (a0:(List zac))(v:Int×Int):Prop:=Con Tryz.prog 82 [(.t (.sl 9 ((a0:List zac).map zac.enc)))] [] (fun r_ o_=>r_=zbx_R v∧o_=zbx_O v)
def zbx_w (a0:(List zac))(Q_:(Int×Int)→Prop):Prop:=zbx_L0 a0 (fun (y1:Int)=>zbx_e Q_ (0,y1)) (fun (y1:Int)=>zbx_e Q_ (y1,0)) 0 0
def zbx_h (a0:(List zac)):HT (Int×Int) := .loop [.keep [0,4,5] []] (.out (Int) .ret [.keep [2,3] []] (zbx_q0_0 a0) (fun y1 => .fin [] [] (0,y1)) (.out (Int) (.exit 0) [.keep [4] []] (zbx_q0_1 a0) (fun y1 => .fin [] [] (y1,0)) (.nil)))
theorem zbx_of {a0 v} (h:zbx_w a0 (fun v_=>v_=v)):zbx_r a0 v:=Con_of1 Tryz.call82 Tryz.func82 [] (zbx_h a0) h
end Go.Proofs.YtjlkmdmaimednaaGreat.R
