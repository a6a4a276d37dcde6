import Derived.Test.YtmopmbehbehilaaTBigB
import Derived.Test.YtmopmbehbehilaaTFixB
set_option linter.unusedVariables false
set_option linter.unusedSimpArgs false
open Go Go.Ab Go.Proofs
namespace Go.Proofs.Ytmopmbehbehilaa.R
set_option linter.unusedVariables false
structure api_Asset where
  ISIN : ByteArray
  Issuer : Int
  Rating : Int
  Maturity : Int
  Currency : ByteArray
def api_Asset.enc (x : api_Asset) : List T := [(str x.ISIN), (i64 x.Issuer), (i64 x.Rating), (i64 x.Maturity), (str x.Currency)]
structure limit_Use where
  Issuer : Int
  ISIN : ByteArray
  Cover : Int
  Limit : Int
def limit_Use.enc (x : limit_Use) : List T := [(i64 x.Issuer), (str x.ISIN), (i64 x.Cover), (i64 x.Limit)]
structure api_Cut where
  Days : Int
  Rating : Int
  Cut : Int
def api_Cut.enc (x : api_Cut) : List T := [(i64 x.Days), (i64 x.Rating), (i64 x.Cut)]
structure api_Basket where
  ID : Int
  Version : Int
  Currency : ByteArray
  Rating : Int
  Least : Int
  Most : Int
  Cuts : (List api_Cut)
  Issuer : Int
  Asset : Int
  Barred : (List Int)
def api_Basket.enc (x : api_Basket) : List T := [(i64 x.ID), (i64 x.Version), (str x.Currency), (i64 x.Rating), (i64 x.Least), (i64 x.Most), (.sl 3 ((x.Cuts : List api_Cut).map api_Cut.enc)), (i64 x.Issuer), (i64 x.Asset), (.sl 1 ((x.Barred : List Int).map eN))]
structure limit_Table where
  need : Int
  issuer : Int
  asset : Int
  issuers : (GM Int Int)
  assets : (GM ByteArray Int)
  sum : Int
def limit_Table_Room_nil_R (v : Int) : A := (.t (i64 v))
def limit_Table_Room_nil_O (v : Int) : List (Nat × O) := []
def limit_Table_Room_nil_e (Q : Int → Prop) (v : Int) : Prop := Rt (limit_Table_Room_nil_R) (limit_Table_Room_nil_O) v (Q v)
/-- (*lombard/limit.Table).Room comes to this. -/
def limit_Table_Room_nil_r (a1 : api_Asset) (v : Int) : Prop := Con Try.prog 9 [(.t (.v (.pointer none))), (.agg [(.t (str a1.ISIN)), (.t (i64 a1.Issuer)), (.t (i64 a1.Rating)), (.t (i64 a1.Maturity)), (.t (str a1.Currency))])] [] (fun r_ o_ => r_ = limit_Table_Room_nil_R v ∧ o_ = limit_Table_Room_nil_O v)
def limit_Table_Room_nil_w (a1 : api_Asset) (Q_ : Int → Prop) : Prop := limit_Table_Room_nil_e Q_ 0
def limit_Table_Room_nil_h (a1 : api_Asset) : HT Int := .fin [] [] 0
theorem limit_Table_Room_nil_con {a1 : api_Asset} {Q_ : Int → Prop} (h : limit_Table_Room_nil_w a1 Q_) : Con Try.prog 9 [(.t (.v (.pointer none))), (.agg [(.t (str a1.ISIN)), (.t (i64 a1.Issuer)), (.t (i64 a1.Rating)), (.t (i64 a1.Maturity)), (.t (str a1.Currency))])] [] (Rets.R (.one (limit_Table_Room_nil_R) (limit_Table_Room_nil_O) Q_)) := Con_runT Try.call9 Try.func9 [] (limit_Table_Room_nil_h a1) (.one (limit_Table_Room_nil_R) (limit_Table_Room_nil_O) Q_) (by kernel_rfl) h (by kernel_rfl)
theorem limit_Table_Room_nil_of {a1 : api_Asset} {v : Int} (h : limit_Table_Room_nil_w a1 (fun v_ => v_ = v)) : limit_Table_Room_nil_r a1 v := (limit_Table_Room_nil_con h).mono fun _ _ ⟨v_, hv_⟩ => by obtain ⟨⟨h1, h2⟩, rfl⟩ := hv_; exact ⟨h1, h2⟩
def limit_Table_Add_nil_R (v : Int) : A := (.t (i64 v))
def limit_Table_Add_nil_O (v : Int) : List (Nat × O) := []
def limit_Table_Add_nil_e (Q : Int → Prop) (v : Int) : Prop := Rt (limit_Table_Add_nil_R) (limit_Table_Add_nil_O) v (Q v)
/-- (*lombard/limit.Table).Add comes to this. -/
def limit_Table_Add_nil_r (a1 : api_Asset) (a2 : Int) (v : Int) : Prop := Con Try.prog 10 [(.t (.v (.pointer none))), (.agg [(.t (str a1.ISIN)), (.t (i64 a1.Issuer)), (.t (i64 a1.Rating)), (.t (i64 a1.Maturity)), (.t (str a1.Currency))]), (.t (i64 a2))] [] (fun r_ o_ => r_ = limit_Table_Add_nil_R v ∧ o_ = limit_Table_Add_nil_O v)
def limit_Table_Add_nil_w (a1 : api_Asset) (a2 : Int) (Q_ : Int → Prop) : Prop := limit_Table_Add_nil_e Q_ 3
def limit_Table_Add_nil_h (a1 : api_Asset) (a2 : Int) : HT Int := .fin [] [] 3
theorem limit_Table_Add_nil_con {a1 : api_Asset} {a2 : Int} {Q_ : Int → Prop} (h : limit_Table_Add_nil_w a1 a2 Q_) : Con Try.prog 10 [(.t (.v (.pointer none))), (.agg [(.t (str a1.ISIN)), (.t (i64 a1.Issuer)), (.t (i64 a1.Rating)), (.t (i64 a1.Maturity)), (.t (str a1.Currency))]), (.t (i64 a2))] [] (Rets.R (.one (limit_Table_Add_nil_R) (limit_Table_Add_nil_O) Q_)) := Con_runT Try.call10 Try.func10 [] (limit_Table_Add_nil_h a1 a2) (.one (limit_Table_Add_nil_R) (limit_Table_Add_nil_O) Q_) (by kernel_rfl) h (by kernel_rfl)
theorem limit_Table_Add_nil_of {a1 : api_Asset} {a2 : Int} {v : Int} (h : limit_Table_Add_nil_w a1 a2 (fun v_ => v_ = v)) : limit_Table_Add_nil_r a1 a2 v := (limit_Table_Add_nil_con h).mono fun _ _ ⟨v_, hv_⟩ => by obtain ⟨⟨h1, h2⟩, rfl⟩ := hv_; exact ⟨h1, h2⟩
def limit_Table_Take_nil_R (v : Int) : A := (.t (i64 v))
def limit_Table_Take_nil_O (v : Int) : List (Nat × O) := []
def limit_Table_Take_nil_e (Q : Int → Prop) (v : Int) : Prop := Rt (limit_Table_Take_nil_R) (limit_Table_Take_nil_O) v (Q v)
/-- (*lombard/limit.Table).Take comes to this. -/
def limit_Table_Take_nil_r (a1 : api_Asset) (a2 : Int) (v : Int) : Prop := Con Try.prog 15 [(.t (.v (.pointer none))), (.agg [(.t (str a1.ISIN)), (.t (i64 a1.Issuer)), (.t (i64 a1.Rating)), (.t (i64 a1.Maturity)), (.t (str a1.Currency))]), (.t (i64 a2))] [] (fun r_ o_ => r_ = limit_Table_Take_nil_R v ∧ o_ = limit_Table_Take_nil_O v)
def limit_Table_Take_nil_w (a1 : api_Asset) (a2 : Int) (Q_ : Int → Prop) : Prop := limit_Table_Take_nil_e Q_ 3
def limit_Table_Take_nil_h (a1 : api_Asset) (a2 : Int) : HT Int := .fin [] [] 3
theorem limit_Table_Take_nil_con {a1 : api_Asset} {a2 : Int} {Q_ : Int → Prop} (h : limit_Table_Take_nil_w a1 a2 Q_) : Con Try.prog 15 [(.t (.v (.pointer none))), (.agg [(.t (str a1.ISIN)), (.t (i64 a1.Issuer)), (.t (i64 a1.Rating)), (.t (i64 a1.Maturity)), (.t (str a1.Currency))]), (.t (i64 a2))] [] (Rets.R (.one (limit_Table_Take_nil_R) (limit_Table_Take_nil_O) Q_)) := Con_runT Try.call15 Try.func15 [] (limit_Table_Take_nil_h a1 a2) (.one (limit_Table_Take_nil_R) (limit_Table_Take_nil_O) Q_) (by kernel_rfl) h (by kernel_rfl)
theorem limit_Table_Take_nil_of {a1 : api_Asset} {a2 : Int} {v : Int} (h : limit_Table_Take_nil_w a1 a2 (fun v_ => v_ = v)) : limit_Table_Take_nil_r a1 a2 v := (limit_Table_Take_nil_con h).mono fun _ _ ⟨v_, hv_⟩ => by obtain ⟨⟨h1, h2⟩, rfl⟩ := hv_; exact ⟨h1, h2⟩
def limit_Table_Sum_nil_R (v : Int) : A := (.t (i64 v))
def limit_Table_Sum_nil_O (v : Int) : List (Nat × O) := []
def limit_Table_Sum_nil_e (Q : Int → Prop) (v : Int) : Prop := Rt (limit_Table_Sum_nil_R) (limit_Table_Sum_nil_O) v (Q v)
/-- (*lombard/limit.Table).Sum comes to this. -/
def limit_Table_Sum_nil_r (v : Int) : Prop := Con Try.prog 18 [(.t (.v (.pointer none)))] [] (fun r_ o_ => r_ = limit_Table_Sum_nil_R v ∧ o_ = limit_Table_Sum_nil_O v)
def limit_Table_Sum_nil_w (Q_ : Int → Prop) : Prop := limit_Table_Sum_nil_e Q_ 0
def limit_Table_Sum_nil_h : HT Int := .fin [] [] 0
theorem limit_Table_Sum_nil_con {Q_ : Int → Prop} (h : limit_Table_Sum_nil_w Q_) : Con Try.prog 18 [(.t (.v (.pointer none)))] [] (Rets.R (.one (limit_Table_Sum_nil_R) (limit_Table_Sum_nil_O) Q_)) := Con_runT Try.call18 Try.func18 [] (limit_Table_Sum_nil_h) (.one (limit_Table_Sum_nil_R) (limit_Table_Sum_nil_O) Q_) (by kernel_rfl) h (by kernel_rfl)
theorem limit_Table_Sum_nil_of {v : Int} (h : limit_Table_Sum_nil_w (fun v_ => v_ = v)) : limit_Table_Sum_nil_r v := (limit_Table_Sum_nil_con h).mono fun _ _ ⟨v_, hv_⟩ => by obtain ⟨⟨h1, h2⟩, rfl⟩ := hv_; exact ⟨h1, h2⟩
def limit_Table_Open_nil_R (v : Int) : A := (.t (i64 v))
def limit_Table_Open_nil_O (v : Int) : List (Nat × O) := []
def limit_Table_Open_nil_e (Q : Int → Prop) (v : Int) : Prop := Rt (limit_Table_Open_nil_R) (limit_Table_Open_nil_O) v (Q v)
/-- (*lombard/limit.Table).Open comes to this. -/
def limit_Table_Open_nil_r (v : Int) : Prop := Con Try.prog 19 [(.t (.v (.pointer none)))] [] (fun r_ o_ => r_ = limit_Table_Open_nil_R v ∧ o_ = limit_Table_Open_nil_O v)
def limit_Table_Open_nil_w (Q_ : Int → Prop) : Prop := limit_Table_Open_nil_e Q_ 0
def limit_Table_Open_nil_h : HT Int := .fin [] [] 0
theorem limit_Table_Open_nil_con {Q_ : Int → Prop} (h : limit_Table_Open_nil_w Q_) : Con Try.prog 19 [(.t (.v (.pointer none)))] [] (Rets.R (.one (limit_Table_Open_nil_R) (limit_Table_Open_nil_O) Q_)) := Con_runT Try.call19 Try.func19 [] (limit_Table_Open_nil_h) (.one (limit_Table_Open_nil_R) (limit_Table_Open_nil_O) Q_) (by kernel_rfl) h (by kernel_rfl)
theorem limit_Table_Open_nil_of {v : Int} (h : limit_Table_Open_nil_w (fun v_ => v_ = v)) : limit_Table_Open_nil_r v := (limit_Table_Open_nil_con h).mono fun _ _ ⟨v_, hv_⟩ => by obtain ⟨⟨h1, h2⟩, rfl⟩ := hv_; exact ⟨h1, h2⟩
def limit_Table_Uses_nil_R (v : (List limit_Use)) : A := (.t (.sl 4 ((v : List limit_Use).map limit_Use.enc)))
def limit_Table_Uses_nil_O (v : (List limit_Use)) : List (Nat × O) := []
def limit_Table_Uses_nil_e (Q : (List limit_Use) → Prop) (v : (List limit_Use)) : Prop := Rt (limit_Table_Uses_nil_R) (limit_Table_Uses_nil_O) v (Q v)
/-- (*lombard/limit.Table).Uses comes to this. -/
def limit_Table_Uses_nil_r (v : (List limit_Use)) : Prop := Con Try.prog 11 [(.t (.v (.pointer none)))] [] (fun r_ o_ => r_ = limit_Table_Uses_nil_R v ∧ o_ = limit_Table_Uses_nil_O v)
def limit_Table_Uses_nil_w (Q_ : (List limit_Use) → Prop) : Prop := limit_Table_Uses_nil_e Q_ []
def limit_Table_Uses_nil_h : HT (List limit_Use) := .fin [] [([], 4)] []
theorem limit_Table_Uses_nil_con {Q_ : (List limit_Use) → Prop} (h : limit_Table_Uses_nil_w Q_) : Con Try.prog 11 [(.t (.v (.pointer none)))] [] (Rets.R (.one (limit_Table_Uses_nil_R) (limit_Table_Uses_nil_O) Q_)) := Con_runT Try.call11 Try.func11 [] (limit_Table_Uses_nil_h) (.one (limit_Table_Uses_nil_R) (limit_Table_Uses_nil_O) Q_) (by kernel_rfl) h (by kernel_rfl)
theorem limit_Table_Uses_nil_of {v : (List limit_Use)} (h : limit_Table_Uses_nil_w (fun v_ => v_ = v)) : limit_Table_Uses_nil_r v := (limit_Table_Uses_nil_con h).mono fun _ _ ⟨v_, hv_⟩ => by obtain ⟨⟨h1, h2⟩, rfl⟩ := hv_; exact ⟨h1, h2⟩
def limit_New_1_R (c0 : Int) (v : Int) : A := (.t (i64 v))
def limit_New_1_O (c0 : Int) (v : Int) : List (Nat × O) := [(640, (.box [(.t (i64 c0))]))]
def limit_New_1_e (c0 : Int) (Q : Int → Prop) (v : Int) : Prop := Rt (limit_New_1_R c0) (limit_New_1_O c0) v (Q v)
/-- lombard/limit.New$1 comes to this. -/
def limit_New_1_r (a0 : Int) (c0 : Int) (v : Int) : Prop := Con Try.prog 23 [(.t (i64 a0)), (.at 640 0)] [(640, (.box [(.t (i64 c0))]))] (fun r_ o_ => r_ = limit_New_1_R c0 v ∧ o_ = limit_New_1_O c0 v)
def limit_New_1_w (a0 : Int) (c0 : Int) (Q_ : Int → Prop) : Prop := ∃ r1 : Int × Int, (fixnum_MulDiv_r c0 a0 1000000 1 r1) ∧ (limit_New_1_e c0 Q_ r1.1)
def limit_New_1_h (a0 : Int) (c0 : Int) : HT Int := .ex (Int × Int) fun r1 => .op 1 2 (.call [] (.tup [(.t (i64 r1.1)), (.t (i64 r1.2))]) []) (.fin [] [] r1.1)
theorem limit_New_1_con {a0 : Int} {c0 : Int} {Q_ : Int → Prop} (h : limit_New_1_w a0 c0 Q_) : Con Try.prog 23 [(.t (i64 a0)), (.at 640 0)] [(640, (.box [(.t (i64 c0))]))] (Rets.R (.one (limit_New_1_R c0) (limit_New_1_O c0) Q_)) := Con_runT Try.call23 Try.func23 [640] (limit_New_1_h a0 c0) (.one (limit_New_1_R c0) (limit_New_1_O c0) Q_) (by kernel_rfl) h (by kernel_rfl)
theorem limit_New_1_of {a0 : Int} {c0 : Int} {v : Int} (h : limit_New_1_w a0 c0 (fun v_ => v_ = v)) : limit_New_1_r a0 c0 v := (limit_New_1_con h).mono fun _ _ ⟨v_, hv_⟩ => by obtain ⟨⟨h1, h2⟩, rfl⟩ := hv_; exact ⟨h1, h2⟩
def limit_New_R0 (v : Int) : A := (.tup [(.t (.v (.pointer none))), (.t (i64 v))])
def limit_New_O0 (v : Int) : List (Nat × O) := []
def limit_New_e0 (Q : Int → Prop) (v : Int) : Prop := Rt (limit_New_R0) (limit_New_O0) v (Q v)
/-- lombard/limit.New comes to this. -/
def limit_New_r0 (a0 : api_Basket) (a1 : Int) (v : Int) : Prop := Con Try.prog 7 [(.agg [(.t (i64 a0.ID)), (.t (i64 a0.Version)), (.t (str a0.Currency)), (.t (i64 a0.Rating)), (.t (i64 a0.Least)), (.t (i64 a0.Most)), (.t (.sl 3 ((a0.Cuts : List api_Cut).map api_Cut.enc))), (.t (i64 a0.Issuer)), (.t (i64 a0.Asset)), (.t (.sl 1 ((a0.Barred : List Int).map eN)))]), (.t (i64 a1))] [] (fun r_ o_ => r_ = limit_New_R0 v ∧ o_ = limit_New_O0 v)
def limit_New_R1 (v : limit_Table × Int) : A := (.tup [(.at 700 0), (.t (i64 v.2))])
def limit_New_O1 (v : limit_Table × Int) : List (Nat × O) := [(700, (.box [(.t (i64 v.1.need)), (.t (i64 v.1.issuer)), (.t (i64 v.1.asset)), (.ref 704), (.ref 705), (.t (i64 v.1.sum))])), (704, (.map false v.1.issuers.clock (v.1.issuers.ents (kI .i64) eN))), (705, (.map false v.1.assets.clock (v.1.assets.ents kS eN)))]
def limit_New_e1 (Q : (limit_Table × Int) → Prop) (v : limit_Table × Int) : Prop := Rt (limit_New_R1) (limit_New_O1) v (Q v)
/-- lombard/limit.New comes to this. -/
def limit_New_r1 (a0 : api_Basket) (a1 : Int) (v : limit_Table × Int) : Prop := Con Try.prog 7 [(.agg [(.t (i64 a0.ID)), (.t (i64 a0.Version)), (.t (str a0.Currency)), (.t (i64 a0.Rating)), (.t (i64 a0.Least)), (.t (i64 a0.Most)), (.t (.sl 3 ((a0.Cuts : List api_Cut).map api_Cut.enc))), (.t (i64 a0.Issuer)), (.t (i64 a0.Asset)), (.t (.sl 1 ((a0.Barred : List Int).map eN)))]), (.t (i64 a1))] [] (fun r_ o_ => r_ = limit_New_R1 v ∧ o_ = limit_New_O1 v)
def limit_New_w (a0 : api_Basket) (a1 : Int) (Q0_ : Int → Prop) (Q1_ : (limit_Table × Int) → Prop) : Prop := Br (decide (a1 < 0)) (limit_New_e0 Q0_ 1) (Br (decide (a1 > 1125899906842624)) (limit_New_e0 Q0_ 1) (Br (decide (a0.Issuer < 0)) (limit_New_e0 Q0_ 1) (Br (decide (a0.Issuer > 1000000)) (limit_New_e0 Q0_ 1) (Br (decide (a0.Asset < 0)) (limit_New_e0 Q0_ 1) (Br (decide (a0.Asset > 1000000)) (limit_New_e0 Q0_ 1) (∃ r1 : Int, (limit_New_1_r a0.Issuer a1 r1) ∧ (∃ r2 : Int, (limit_New_1_r a0.Asset a1 r2) ∧ (limit_New_e1 Q1_ ((⟨a1, r1, r2, (GM.nil : (GM Int Int)), (GM.nil : (GM ByteArray Int)), 0⟩ : limit_Table), 0)))))))))
def limit_New_h (a0 : api_Basket) (a1 : Int) : HT (Int ⊕ (limit_Table × Int)) := .bo 1 2 (.fin [] [] (.inl 1)) (.bo 1 6 (.fin [] [] (.inl 1)) (.bo 1 11 (.fin [] [] (.inl 1)) (.bo 1 16 (.fin [] [] (.inl 1)) (.bo 1 21 (.fin [] [] (.inl 1)) (.both 32 (.fin [] [] (.inl 1)) (.reg 4 [.ren 3 640] [] (.ex (Int) fun r1 => .op 4 4 (.callR [] [640] [640] (.t (i64 r1)) []) (.ex (Int) fun r2 => .op 4 8 (.callR [] [640] [640] (.t (i64 r2)) []) (.fin [.ren 46 700, .ren 43 704, .ren 44 705] [] (.inr ((⟨a1, r1, r2, (GM.nil : (GM Int Int)), (GM.nil : (GM ByteArray Int)), 0⟩ : limit_Table), 0)))))))))))
theorem limit_New_con {a0 : api_Basket} {a1 : Int} {Q0_ : Int → Prop} {Q1_ : (limit_Table × Int) → Prop} (h : limit_New_w a0 a1 Q0_ Q1_) : Con Try.prog 7 [(.agg [(.t (i64 a0.ID)), (.t (i64 a0.Version)), (.t (str a0.Currency)), (.t (i64 a0.Rating)), (.t (i64 a0.Least)), (.t (i64 a0.Most)), (.t (.sl 3 ((a0.Cuts : List api_Cut).map api_Cut.enc))), (.t (i64 a0.Issuer)), (.t (i64 a0.Asset)), (.t (.sl 1 ((a0.Barred : List Int).map eN)))]), (.t (i64 a1))] [] (Rets.R (.cons (limit_New_R0) (limit_New_O0) Q0_ (.one (limit_New_R1) (limit_New_O1) Q1_))) := Con_runT Try.call7 Try.func7 [700, 704, 705] (limit_New_h a0 a1) (.cons (limit_New_R0) (limit_New_O0) Q0_ (.one (limit_New_R1) (limit_New_O1) Q1_)) (by kernel_rfl) h (by kernel_rfl)
theorem limit_New_of0 {a0 : api_Basket} {a1 : Int} {v : Int} (h : limit_New_w a0 a1 (fun v_ => v_ = v) (fun _ => False)) : limit_New_r0 a0 a1 v := (limit_New_con h).mono fun _ _ ⟨v_, hv_⟩ => by rcases v_ with v_ | v_ <;> first | (exact absurd hv_.2 id) | (obtain ⟨⟨h1, h2⟩, rfl⟩ := hv_; exact ⟨h1, h2⟩)
theorem limit_New_of1 {a0 : api_Basket} {a1 : Int} {v : limit_Table × Int} (h : limit_New_w a0 a1 (fun _ => False) (fun v_ => v_ = v)) : limit_New_r1 a0 a1 v := (limit_New_con h).mono fun _ _ ⟨v_, hv_⟩ => by rcases v_ with v_ | v_ <;> first | (exact absurd hv_.2 id) | (obtain ⟨⟨h1, h2⟩, rfl⟩ := hv_; exact ⟨h1, h2⟩)
def limit_Table_Room_R (a0 : limit_Table) (v : Int) : A := (.t (i64 v))
def limit_Table_Room_O (a0 : limit_Table) (v : Int) : List (Nat × O) := [(700, (.box [(.t (i64 a0.need)), (.t (i64 a0.issuer)), (.t (i64 a0.asset)), (.ref 704), (.ref 705), (.t (i64 a0.sum))])), (704, (.map false a0.issuers.clock (a0.issuers.ents (kI .i64) eN))), (705, (.map false a0.assets.clock (a0.assets.ents kS eN)))]
def limit_Table_Room_e (a0 : limit_Table) (Q : Int → Prop) (v : Int) : Prop := Rt (limit_Table_Room_R a0) (limit_Table_Room_O a0) v (Q v)
/-- (*lombard/limit.Table).Room comes to this. -/
def limit_Table_Room_r (a0 : limit_Table) (a1 : api_Asset) (v : Int) : Prop := Con Try.prog 9 [(.at 700 0), (.agg [(.t (str a1.ISIN)), (.t (i64 a1.Issuer)), (.t (i64 a1.Rating)), (.t (i64 a1.Maturity)), (.t (str a1.Currency))])] [(700, (.box [(.t (i64 a0.need)), (.t (i64 a0.issuer)), (.t (i64 a0.asset)), (.ref 704), (.ref 705), (.t (i64 a0.sum))])), (704, (.map false a0.issuers.clock (a0.issuers.ents (kI .i64) eN))), (705, (.map false a0.assets.clock (a0.assets.ents kS eN)))] (fun r_ o_ => r_ = limit_Table_Room_R a0 v ∧ o_ = limit_Table_Room_O a0 v)
def limit_Table_Room_w (a0 : limit_Table) (a1 : api_Asset) (Q_ : Int → Prop) : Prop := ∃ v1 : Int, ∃ b2 : Bool, Look (.int .i64) (kI .i64) eN 0 a0.issuers a1.Issuer v1 b2 (Num .i64 (a0.issuer - v1) (∃ v3 : Int, ∃ b4 : Bool, Look .string kS eN 0 a0.assets a1.ISIN v3 b4 (Num .i64 (a0.asset - v3) (limit_Table_Room_e a0 Q_ (max 0 (min (a0.issuer - v1) (a0.asset - v3)))))))
def limit_Table_Room_h (a0 : limit_Table) (a1 : api_Asset) : HT Int := .ex (Int) fun v1 => .ex (Bool) fun b2 => .op 3 10 (.look (eN v1) b2) (.op 3 11 (.nw) (.ex (Int) fun v3 => .ex (Bool) fun b4 => .op 3 22 (.look (eN v3) b4) (.op 3 23 (.nw) (.fin [] [] (max 0 (min (a0.issuer - v1) (a0.asset - v3)))))))
theorem limit_Table_Room_con {a0 : limit_Table} {a1 : api_Asset} {Q_ : Int → Prop} (h : limit_Table_Room_w a0 a1 Q_) : Con Try.prog 9 [(.at 700 0), (.agg [(.t (str a1.ISIN)), (.t (i64 a1.Issuer)), (.t (i64 a1.Rating)), (.t (i64 a1.Maturity)), (.t (str a1.Currency))])] [(700, (.box [(.t (i64 a0.need)), (.t (i64 a0.issuer)), (.t (i64 a0.asset)), (.ref 704), (.ref 705), (.t (i64 a0.sum))])), (704, (.map false a0.issuers.clock (a0.issuers.ents (kI .i64) eN))), (705, (.map false a0.assets.clock (a0.assets.ents kS eN)))] (Rets.R (.one (limit_Table_Room_R a0) (limit_Table_Room_O a0) Q_)) := Con_runT Try.call9 Try.func9 [700, 704, 705] (limit_Table_Room_h a0 a1) (.one (limit_Table_Room_R a0) (limit_Table_Room_O a0) Q_) (by kernel_rfl) h (by kernel_rfl)
theorem limit_Table_Room_of {a0 : limit_Table} {a1 : api_Asset} {v : Int} (h : limit_Table_Room_w a0 a1 (fun v_ => v_ = v)) : limit_Table_Room_r a0 a1 v := (limit_Table_Room_con h).mono fun _ _ ⟨v_, hv_⟩ => by obtain ⟨⟨h1, h2⟩, rfl⟩ := hv_; exact ⟨h1, h2⟩
def limit_Table_put_R (v : limit_Table) : A := (.tup [])
def limit_Table_put_O (v : limit_Table) : List (Nat × O) := [(700, (.box [(.t (i64 v.need)), (.t (i64 v.issuer)), (.t (i64 v.asset)), (.ref 704), (.ref 705), (.t (i64 v.sum))])), (704, (.map false v.issuers.clock (v.issuers.ents (kI .i64) eN))), (705, (.map false v.assets.clock (v.assets.ents kS eN)))]
def limit_Table_put_e (Q : limit_Table → Prop) (v : limit_Table) : Prop := Rt (limit_Table_put_R) (limit_Table_put_O) v (Q v)
/-- (*lombard/limit.Table).put comes to this. -/
def limit_Table_put_r (a0 : limit_Table) (a1 : api_Asset) (a2 : Int) (v : limit_Table) : Prop := Con Try.prog 25 [(.at 700 0), (.agg [(.t (str a1.ISIN)), (.t (i64 a1.Issuer)), (.t (i64 a1.Rating)), (.t (i64 a1.Maturity)), (.t (str a1.Currency))]), (.t (i64 a2))] [(700, (.box [(.t (i64 a0.need)), (.t (i64 a0.issuer)), (.t (i64 a0.asset)), (.ref 704), (.ref 705), (.t (i64 a0.sum))])), (704, (.map false a0.issuers.clock (a0.issuers.ents (kI .i64) eN))), (705, (.map false a0.assets.clock (a0.assets.ents kS eN)))] (fun r_ o_ => r_ = limit_Table_put_R v ∧ o_ = limit_Table_put_O v)
def limit_Table_put_w (a0 : limit_Table) (a1 : api_Asset) (a2 : Int) (Q_ : limit_Table → Prop) : Prop := ∃ v1 : Int, ∃ b2 : Bool, Look (.int .i64) (kI .i64) eN 0 a0.issuers a1.Issuer v1 b2 (Num .i64 (v1 + a2) (∃ m3 : (GM Int Int), Put (.int .i64) (kI .i64) eN a0.issuers a1.Issuer (v1 + a2) m3 (∃ v4 : Int, ∃ b5 : Bool, Look .string kS eN 0 a0.assets a1.ISIN v4 b5 (Num .i64 (v4 + a2) (∃ m6 : (GM ByteArray Int), Put .string kS eN a0.assets a1.ISIN (v4 + a2) m6 (Num .i64 (a0.sum + a2) (limit_Table_put_e Q_ (⟨a0.need, a0.issuer, a0.asset, m3, m6, (a0.sum + a2)⟩ : limit_Table))))))))
def limit_Table_put_h (a0 : limit_Table) (a1 : api_Asset) (a2 : Int) : HT limit_Table := .ex (Int) fun v1 => .ex (Bool) fun b2 => .op 1 6 (.look (eN v1) b2) (.op 1 8 (.nw) (.ex ((GM Int Int)) fun m3 => .op 1 9 (.putM m3.clock (m3.ents (kI .i64) eN)) (.ex (Int) fun v4 => .ex (Bool) fun b5 => .op 2 6 (.look (eN v4) b5) (.op 2 8 (.nw) (.ex ((GM ByteArray Int)) fun m6 => .op 2 9 (.putM m6.clock (m6.ents kS eN)) (.op 3 5 (.nw) (.fin [] [] (⟨a0.need, a0.issuer, a0.asset, m3, m6, (a0.sum + a2)⟩ : limit_Table))))))))
theorem limit_Table_put_con {a0 : limit_Table} {a1 : api_Asset} {a2 : Int} {Q_ : limit_Table → Prop} (h : limit_Table_put_w a0 a1 a2 Q_) : Con Try.prog 25 [(.at 700 0), (.agg [(.t (str a1.ISIN)), (.t (i64 a1.Issuer)), (.t (i64 a1.Rating)), (.t (i64 a1.Maturity)), (.t (str a1.Currency))]), (.t (i64 a2))] [(700, (.box [(.t (i64 a0.need)), (.t (i64 a0.issuer)), (.t (i64 a0.asset)), (.ref 704), (.ref 705), (.t (i64 a0.sum))])), (704, (.map false a0.issuers.clock (a0.issuers.ents (kI .i64) eN))), (705, (.map false a0.assets.clock (a0.assets.ents kS eN)))] (Rets.R (.one (limit_Table_put_R) (limit_Table_put_O) Q_)) := Con_runT Try.call25 Try.func25 [700, 704, 705] (limit_Table_put_h a0 a1 a2) (.one (limit_Table_put_R) (limit_Table_put_O) Q_) (by kernel_rfl) h (by kernel_rfl)
theorem limit_Table_put_of {a0 : limit_Table} {a1 : api_Asset} {a2 : Int} {v : limit_Table} (h : limit_Table_put_w a0 a1 a2 (fun v_ => v_ = v)) : limit_Table_put_r a0 a1 a2 v := (limit_Table_put_con h).mono fun _ _ ⟨v_, hv_⟩ => by obtain ⟨⟨h1, h2⟩, rfl⟩ := hv_; exact ⟨h1, h2⟩
def limit_Table_Add_R (v : Int × limit_Table) : A := (.t (i64 v.1))
def limit_Table_Add_O (v : Int × limit_Table) : List (Nat × O) := [(700, (.box [(.t (i64 v.2.need)), (.t (i64 v.2.issuer)), (.t (i64 v.2.asset)), (.ref 704), (.ref 705), (.t (i64 v.2.sum))])), (704, (.map false v.2.issuers.clock (v.2.issuers.ents (kI .i64) eN))), (705, (.map false v.2.assets.clock (v.2.assets.ents kS eN)))]
def limit_Table_Add_e (Q : (Int × limit_Table) → Prop) (v : Int × limit_Table) : Prop := Rt (limit_Table_Add_R) (limit_Table_Add_O) v (Q v)
/-- (*lombard/limit.Table).Add comes to this. -/
def limit_Table_Add_r (a0 : limit_Table) (a1 : api_Asset) (a2 : Int) (v : Int × limit_Table) : Prop := Con Try.prog 10 [(.at 700 0), (.agg [(.t (str a1.ISIN)), (.t (i64 a1.Issuer)), (.t (i64 a1.Rating)), (.t (i64 a1.Maturity)), (.t (str a1.Currency))]), (.t (i64 a2))] [(700, (.box [(.t (i64 a0.need)), (.t (i64 a0.issuer)), (.t (i64 a0.asset)), (.ref 704), (.ref 705), (.t (i64 a0.sum))])), (704, (.map false a0.issuers.clock (a0.issuers.ents (kI .i64) eN))), (705, (.map false a0.assets.clock (a0.assets.ents kS eN)))] (fun r_ o_ => r_ = limit_Table_Add_R v ∧ o_ = limit_Table_Add_O v)
def limit_Table_Add_w (a0 : limit_Table) (a1 : api_Asset) (a2 : Int) (Q_ : (Int × limit_Table) → Prop) : Prop := Br (decide (a2 < 0)) (limit_Table_Add_e Q_ (1, a0)) (∃ r1 : Int, (limit_Table_Room_r a0 a1 r1) ∧ (Br (decide (a2 > r1)) (limit_Table_Add_e Q_ (24, a0)) (∃ r2 : limit_Table, (limit_Table_put_r a0 a1 a2 r2) ∧ (limit_Table_Add_e Q_ (0, r2)))))
def limit_Table_Add_h (a0 : limit_Table) (a1 : api_Asset) (a2 : Int) : HT (Int × limit_Table) := .both 10 (.fin [] [] (1, a0)) (.ex (Int) fun r1 => .op 5 3 (.callR [] [700, 704, 705] [700, 704, 705] (.t (i64 r1)) []) (.both 13 (.fin [] [] (24, a0)) (.ex (limit_Table) fun r2 => .op 7 3 (.call [700, 704, 705] (.tup []) [(700, (.box [(.t (i64 r2.need)), (.t (i64 r2.issuer)), (.t (i64 r2.asset)), (.ref 704), (.ref 705), (.t (i64 r2.sum))])), (704, (.map false r2.issuers.clock (r2.issuers.ents (kI .i64) eN))), (705, (.map false r2.assets.clock (r2.assets.ents kS eN)))]) (.fin [] [] (0, r2)))))
theorem limit_Table_Add_con {a0 : limit_Table} {a1 : api_Asset} {a2 : Int} {Q_ : (Int × limit_Table) → Prop} (h : limit_Table_Add_w a0 a1 a2 Q_) : Con Try.prog 10 [(.at 700 0), (.agg [(.t (str a1.ISIN)), (.t (i64 a1.Issuer)), (.t (i64 a1.Rating)), (.t (i64 a1.Maturity)), (.t (str a1.Currency))]), (.t (i64 a2))] [(700, (.box [(.t (i64 a0.need)), (.t (i64 a0.issuer)), (.t (i64 a0.asset)), (.ref 704), (.ref 705), (.t (i64 a0.sum))])), (704, (.map false a0.issuers.clock (a0.issuers.ents (kI .i64) eN))), (705, (.map false a0.assets.clock (a0.assets.ents kS eN)))] (Rets.R (.one (limit_Table_Add_R) (limit_Table_Add_O) Q_)) := Con_runT Try.call10 Try.func10 [700, 704, 705] (limit_Table_Add_h a0 a1 a2) (.one (limit_Table_Add_R) (limit_Table_Add_O) Q_) (by kernel_rfl) h (by kernel_rfl)
theorem limit_Table_Add_of {a0 : limit_Table} {a1 : api_Asset} {a2 : Int} {v : Int × limit_Table} (h : limit_Table_Add_w a0 a1 a2 (fun v_ => v_ = v)) : limit_Table_Add_r a0 a1 a2 v := (limit_Table_Add_con h).mono fun _ _ ⟨v_, hv_⟩ => by obtain ⟨⟨h1, h2⟩, rfl⟩ := hv_; exact ⟨h1, h2⟩
def limit_Table_Open_R (a0 : limit_Table) (v : Int) : A := (.t (i64 v))
def limit_Table_Open_O (a0 : limit_Table) (v : Int) : List (Nat × O) := [(700, (.box [(.t (i64 a0.need)), (.t (i64 a0.issuer)), (.t (i64 a0.asset)), (.ref 704), (.ref 705), (.t (i64 a0.sum))])), (704, (.map false a0.issuers.clock (a0.issuers.ents (kI .i64) eN))), (705, (.map false a0.assets.clock (a0.assets.ents kS eN)))]
def limit_Table_Open_e (a0 : limit_Table) (Q : Int → Prop) (v : Int) : Prop := Rt (limit_Table_Open_R a0) (limit_Table_Open_O a0) v (Q v)
/-- (*lombard/limit.Table).Open comes to this. -/
def limit_Table_Open_r (a0 : limit_Table) (v : Int) : Prop := Con Try.prog 19 [(.at 700 0)] [(700, (.box [(.t (i64 a0.need)), (.t (i64 a0.issuer)), (.t (i64 a0.asset)), (.ref 704), (.ref 705), (.t (i64 a0.sum))])), (704, (.map false a0.issuers.clock (a0.issuers.ents (kI .i64) eN))), (705, (.map false a0.assets.clock (a0.assets.ents kS eN)))] (fun r_ o_ => r_ = limit_Table_Open_R a0 v ∧ o_ = limit_Table_Open_O a0 v)
def limit_Table_Open_w (a0 : limit_Table) (Q_ : Int → Prop) : Prop := Num .i64 (a0.need - a0.sum) (limit_Table_Open_e a0 Q_ (max 0 (a0.need - a0.sum)))
def limit_Table_Open_h (a0 : limit_Table) : HT Int := .op 3 8 (.nw) (.fin [] [] (max 0 (a0.need - a0.sum)))
theorem limit_Table_Open_con {a0 : limit_Table} {Q_ : Int → Prop} (h : limit_Table_Open_w a0 Q_) : Con Try.prog 19 [(.at 700 0)] [(700, (.box [(.t (i64 a0.need)), (.t (i64 a0.issuer)), (.t (i64 a0.asset)), (.ref 704), (.ref 705), (.t (i64 a0.sum))])), (704, (.map false a0.issuers.clock (a0.issuers.ents (kI .i64) eN))), (705, (.map false a0.assets.clock (a0.assets.ents kS eN)))] (Rets.R (.one (limit_Table_Open_R a0) (limit_Table_Open_O a0) Q_)) := Con_runT Try.call19 Try.func19 [700, 704, 705] (limit_Table_Open_h a0) (.one (limit_Table_Open_R a0) (limit_Table_Open_O a0) Q_) (by kernel_rfl) h (by kernel_rfl)
theorem limit_Table_Open_of {a0 : limit_Table} {v : Int} (h : limit_Table_Open_w a0 (fun v_ => v_ = v)) : limit_Table_Open_r a0 v := (limit_Table_Open_con h).mono fun _ _ ⟨v_, hv_⟩ => by obtain ⟨⟨h1, h2⟩, rfl⟩ := hv_; exact ⟨h1, h2⟩
def lombardlaw16_awake_R (v : Bool) : A := (.t (boo v))
def lombardlaw16_awake_O (v : Bool) : List (Nat × O) := []
def lombardlaw16_awake_e (Q : Bool → Prop) (v : Bool) : Prop := Rt (lombardlaw16_awake_R) (lombardlaw16_awake_O) v (Q v)
/-- lombard/lombardlaw16.awake comes to this. -/
def lombardlaw16_awake_r (v : Bool) : Prop := Con Try.prog 8 [] [] (fun r_ o_ => r_ = lombardlaw16_awake_R v ∧ o_ = lombardlaw16_awake_O v)
def lombardlaw16_awake_w (Q_ : Bool → Prop) : Prop := (∃ r1 : Int, (limit_New_r0 (⟨0, 0, ByteArray.empty, 0, 0, 0, [], 400000, 300000, []⟩ : api_Basket) 1000 r1) ∧ (Br (r1 != 0) (lombardlaw16_awake_e Q_ false) (∃ r2 : Int, (limit_Table_Room_nil_r (⟨(⟨#[65]⟩ : ByteArray), 1, 0, 0, ByteArray.empty⟩ : api_Asset) r2) ∧ (Br (r2 != 300) (lombardlaw16_awake_e Q_ false) (∃ r3 : Int, (limit_Table_Add_nil_r (⟨(⟨#[65]⟩ : ByteArray), 1, 0, 0, ByteArray.empty⟩ : api_Asset) 300 r3) ∧ (Br (r3 != r1) (lombardlaw16_awake_e Q_ false) (∃ r4 : Int, (limit_Table_Room_nil_r (⟨(⟨#[66]⟩ : ByteArray), 1, 0, 0, ByteArray.empty⟩ : api_Asset) r4) ∧ (Br (r4 == 100) (∃ r5 : Int, (limit_Table_Add_nil_r (⟨(⟨#[66]⟩ : ByteArray), 1, 0, 0, ByteArray.empty⟩ : api_Asset) 101 r5) ∧ (Br (r5 == 24) (∃ r6 : Int, (limit_Table_Open_nil_r r6) ∧ (lombardlaw16_awake_e Q_ (r6 == 700))) (lombardlaw16_awake_e Q_ false))) (lombardlaw16_awake_e Q_ false))))))))) ∨ (∃ r1 : limit_Table × Int, (limit_New_r1 (⟨0, 0, ByteArray.empty, 0, 0, 0, [], 400000, 300000, []⟩ : api_Basket) 1000 r1) ∧ (Br (r1.2 != 0) (lombardlaw16_awake_e Q_ false) (∃ r2 : Int, (limit_Table_Room_r r1.1 (⟨(⟨#[65]⟩ : ByteArray), 1, 0, 0, ByteArray.empty⟩ : api_Asset) r2) ∧ (Br (r2 != 300) (lombardlaw16_awake_e Q_ false) (∃ r3 : Int × limit_Table, (limit_Table_Add_r r1.1 (⟨(⟨#[65]⟩ : ByteArray), 1, 0, 0, ByteArray.empty⟩ : api_Asset) 300 r3) ∧ (Br (r3.1 != r1.2) (lombardlaw16_awake_e Q_ false) (∃ r4 : Int, (limit_Table_Room_r r3.2 (⟨(⟨#[66]⟩ : ByteArray), 1, 0, 0, ByteArray.empty⟩ : api_Asset) r4) ∧ (Br (r4 == 100) (∃ r5 : Int × limit_Table, (limit_Table_Add_r r3.2 (⟨(⟨#[66]⟩ : ByteArray), 1, 0, 0, ByteArray.empty⟩ : api_Asset) 101 r5) ∧ (Br (r5.1 == 24) (∃ r6 : Int, (limit_Table_Open_r r5.2 r6) ∧ (lombardlaw16_awake_e Q_ (r6 == 700))) (lombardlaw16_awake_e Q_ false))) (lombardlaw16_awake_e Q_ false)))))))))
def lombardlaw16_awake_h : HT Bool := .op 1 0 (.nilv [([6], 3), ([9], 1)]) (.or (.ex (Int) fun r1 => .op 1 1 (.call [] (.tup [(.t (.v (.pointer none))), (.t (i64 r1))]) []) (.bo 3 2 (.fin [] [] false) (.ex (Int) fun r2 => .op 3 5 (.call [] (.t (i64 r2)) []) (.bo 3 8 (.fin [] [] false) (.ex (Int) fun r3 => .op 3 11 (.call [] (.t (i64 r3)) []) (.both 26 (.fin [] [] false) (.ex (Int) fun r4 => .op 5 2 (.call [] (.t (i64 r4)) []) (.bo 5 4 (.ex (Int) fun r5 => .op 5 7 (.call [] (.t (i64 r5)) []) (.bo 5 10 (.ex (Int) fun r6 => .op 5 12 (.call [] (.t (i64 r6)) []) (.fin [] [] (r6 == 700))) (.fin [] [] false))) (.fin [] [] false))))))))) (.ex (limit_Table × Int) fun r1 => .op 1 1 (.call [] (.tup [(.at 700 0), (.t (i64 r1.2))]) [(700, (.box [(.t (i64 r1.1.need)), (.t (i64 r1.1.issuer)), (.t (i64 r1.1.asset)), (.ref 704), (.ref 705), (.t (i64 r1.1.sum))])), (704, (.map false r1.1.issuers.clock (r1.1.issuers.ents (kI .i64) eN))), (705, (.map false r1.1.assets.clock (r1.1.assets.ents kS eN)))]) (.bo 3 2 (.fin [] [] false) (.ex (Int) fun r2 => .op 3 5 (.callR [] [700, 704, 705] [700, 704, 705] (.t (i64 r2)) []) (.bo 3 8 (.fin [] [] false) (.ex (Int × limit_Table) fun r3 => .op 3 11 (.call [700, 704, 705] (.t (i64 r3.1)) [(700, (.box [(.t (i64 r3.2.need)), (.t (i64 r3.2.issuer)), (.t (i64 r3.2.asset)), (.ref 704), (.ref 705), (.t (i64 r3.2.sum))])), (704, (.map false r3.2.issuers.clock (r3.2.issuers.ents (kI .i64) eN))), (705, (.map false r3.2.assets.clock (r3.2.assets.ents kS eN)))]) (.both 26 (.fin [] [] false) (.ex (Int) fun r4 => .op 5 2 (.callR [] [700, 704, 705] [700, 704, 705] (.t (i64 r4)) []) (.bo 5 4 (.ex (Int × limit_Table) fun r5 => .op 5 7 (.call [700, 704, 705] (.t (i64 r5.1)) [(700, (.box [(.t (i64 r5.2.need)), (.t (i64 r5.2.issuer)), (.t (i64 r5.2.asset)), (.ref 704), (.ref 705), (.t (i64 r5.2.sum))])), (704, (.map false r5.2.issuers.clock (r5.2.issuers.ents (kI .i64) eN))), (705, (.map false r5.2.assets.clock (r5.2.assets.ents kS eN)))]) (.bo 5 10 (.ex (Int) fun r6 => .op 5 12 (.callR [] [700, 704, 705] [700, 704, 705] (.t (i64 r6)) []) (.fin [] [] (r6 == 700))) (.fin [] [] false))) (.fin [] [] false))))))))))
theorem lombardlaw16_awake_con {Q_ : Bool → Prop} (h : lombardlaw16_awake_w Q_) : Con Try.prog 8 [] [] (Rets.R (.one (lombardlaw16_awake_R) (lombardlaw16_awake_O) Q_)) := Con_runT Try.call8 Try.func8 [] (lombardlaw16_awake_h) (.one (lombardlaw16_awake_R) (lombardlaw16_awake_O) Q_) (by kernel_rfl) h (by kernel_rfl)
theorem lombardlaw16_awake_of {v : Bool} (h : lombardlaw16_awake_w (fun v_ => v_ = v)) : lombardlaw16_awake_r v := (lombardlaw16_awake_con h).mono fun _ _ ⟨v_, hv_⟩ => by obtain ⟨⟨h1, h2⟩, rfl⟩ := hv_; exact ⟨h1, h2⟩
def lombardlaw16_LimitNobody_R (v : Bool) : A := (.t (boo v))
def lombardlaw16_LimitNobody_O (v : Bool) : List (Nat × O) := []
def lombardlaw16_LimitNobody_e (Q : Bool → Prop) (v : Bool) : Prop := Rt (lombardlaw16_LimitNobody_R) (lombardlaw16_LimitNobody_O) v (Q v)
/-- lombard/lombardlaw16.LimitNobody comes to this. -/
def lombardlaw16_LimitNobody_r (a0 : api_Asset) (a1 : Int) (v : Bool) : Prop := Con Try.prog 6 [(.agg [(.t (str a0.ISIN)), (.t (i64 a0.Issuer)), (.t (i64 a0.Rating)), (.t (i64 a0.Maturity)), (.t (str a0.Currency))]), (.t (i64 a1))] [] (fun r_ o_ => r_ = lombardlaw16_LimitNobody_R v ∧ o_ = lombardlaw16_LimitNobody_O v)
def lombardlaw16_LimitNobody_w (a0 : api_Asset) (a1 : Int) (Q_ : Bool → Prop) : Prop := ∃ r1 : Int, (limit_Table_Room_nil_r a0 r1) ∧ (Br (r1 == 0) (∃ r2 : Int, (limit_Table_Add_nil_r a0 a1 r2) ∧ (Br (r2 == 3) (∃ r3 : Int, (limit_Table_Take_nil_r a0 a1 r3) ∧ (Br (r3 == 3) (∃ r4 : Int, (limit_Table_Sum_nil_r r4) ∧ (Br (r4 == 0) (∃ r5 : Int, (limit_Table_Open_nil_r r5) ∧ (Br (r5 == 0) (∃ r6 : (List limit_Use), (limit_Table_Uses_nil_r r6) ∧ (Br ((lenM limit_Use.enc r6) == 0) (∃ r7 : Bool, (lombardlaw16_awake_r r7) ∧ (lombardlaw16_LimitNobody_e Q_ r7)) (lombardlaw16_LimitNobody_e Q_ false))) (lombardlaw16_LimitNobody_e Q_ false))) (lombardlaw16_LimitNobody_e Q_ false))) (lombardlaw16_LimitNobody_e Q_ false))) (lombardlaw16_LimitNobody_e Q_ false))) (lombardlaw16_LimitNobody_e Q_ false))
def lombardlaw16_LimitNobody_h (a0 : api_Asset) (a1 : Int) : HT Bool := .ex (Int) fun r1 => .op 2 2 (.call [] (.t (i64 r1)) []) (.bo 2 4 (.ex (Int) fun r2 => .op 2 8 (.call [] (.t (i64 r2)) []) (.bo 2 11 (.ex (Int) fun r3 => .op 2 15 (.call [] (.t (i64 r3)) []) (.bo 2 18 (.ex (Int) fun r4 => .op 2 20 (.call [] (.t (i64 r4)) []) (.bo 2 23 (.ex (Int) fun r5 => .op 2 25 (.call [] (.t (i64 r5)) []) (.bo 2 28 (.ex ((List limit_Use)) fun r6 => .op 2 30 (.call [] (.t (.sl 4 ((r6 : List limit_Use).map limit_Use.enc))) []) (.bo 2 34 (.ex (Bool) fun r7 => .op 2 35 (.call [] (.t (boo r7)) []) (.fin [] [] r7)) (.fin [] [] false))) (.fin [] [] false))) (.fin [] [] false))) (.fin [] [] false))) (.fin [] [] false))) (.fin [] [] false))
theorem lombardlaw16_LimitNobody_con {a0 : api_Asset} {a1 : Int} {Q_ : Bool → Prop} (h : lombardlaw16_LimitNobody_w a0 a1 Q_) : Con Try.prog 6 [(.agg [(.t (str a0.ISIN)), (.t (i64 a0.Issuer)), (.t (i64 a0.Rating)), (.t (i64 a0.Maturity)), (.t (str a0.Currency))]), (.t (i64 a1))] [] (Rets.R (.one (lombardlaw16_LimitNobody_R) (lombardlaw16_LimitNobody_O) Q_)) := Con_runT Try.call6 Try.func6 [] (lombardlaw16_LimitNobody_h a0 a1) (.one (lombardlaw16_LimitNobody_R) (lombardlaw16_LimitNobody_O) Q_) (by kernel_rfl) h (by kernel_rfl)
theorem lombardlaw16_LimitNobody_of {a0 : api_Asset} {a1 : Int} {v : Bool} (h : lombardlaw16_LimitNobody_w a0 a1 (fun v_ => v_ = v)) : lombardlaw16_LimitNobody_r a0 a1 v := (lombardlaw16_LimitNobody_con h).mono fun _ _ ⟨v_, hv_⟩ => by obtain ⟨⟨h1, h2⟩, rfl⟩ := hv_; exact ⟨h1, h2⟩
end Go.Proofs.Ytmopmbehbehilaa.R
