/- Texts put together. -/
import Derived.Test.YtjlkmdmaimednaaGreatTLotB
import Derived.Test.YtjlkmdmaimednaaGreatTRankR
import Derived.Test.YtjlkmdmaimednaaGreatRS
import Derived.Test.YtjlkmdmaimednaaGreatAbY
import Derived.Test.YtjlkmdmaimednaaGreatTKeys
import Derived.Test.YtjlkmdmaimednaaGreatTBack
namespace Go.Proofs.YtjlkmdmaimednaaGreat.Pure
open Go Go.Ab Go.Stable Go.Proofs.YtjlkmdmaimednaaGreat.R
set_option linter.unusedVariables false
instance decMem (k:ByteArray) (l:List ByteArray):Decidable (k∈l):=decidable_of_iff ((l.any fun y=>decide (y=k))=true) (by simp)
def wrongL:List ByteArray→List RI→Int
 |_,[]=>0
 |seen,x::l=>if (coverS x.Lot.Qty x.Price x.Cut).2≠0∨x.Lot.Qty=0 then 1 else if 1125899906842624<covC x then 9 else if x.Asset.ISIN∈seen∨x.Asset.ISIN≠x.Lot.ISIN then 7 else wrongL (seen++[x.Asset.ISIN]) l
def wrongS (l:List RI):Int:=if 64<l.length then 2 else wrongL [] l
theorem check_l {l:List RI} {Q0:Int→Prop} {Q1:Unit→Prop} (hl:l.length≤64):∀ (n i:Nat) (m:GM ByteArray Bool) (seen:List ByteArray),n+i=l.length→(∀ k,m.getD k false=decide (k∈seen))→
  (wrongL seen (l.drop i)≠0→Q0 (wrongL seen (l.drop i)))→(wrongL seen (l.drop i)=0→Q1 ())→zcr_L0 (l.map toH) Q0 Q1 (i:Int) m:=by
 intro n
 induction n with
 |zero=>
  intro i m seen h hm q0 q1
  refine zcr_l0 ?_
  unfold zcr_w0
  rw [lenM_eq,List.length_map]
  rw [List.drop_of_length_le (by omega)] at q1
  exact Br.neg (by omega) (Lf.i (q1 rfl))
 |succ n ih=>
  intro i m seen h hm q0 q1
  have hs:i<l.length:=by omega
  refine zcr_l0 ?_
  unfold zcr_w0
  rw [lenM_eq,List.length_map]
  rw [List.drop_eq_getElem_cons hs] at q0 q1
  have g:(l.map toH)[(i:Int).toNat]? = some (toH l[i]):=by simp [hs]
  simp only [wrongL] at q0 q1
  refine Br.pos (by omega) ⟨toH l[i],Got.i ⟨_,Cover_r,Br.i (fun c=>Lf.i ?_) (fun c=>Br.i (fun c1=>Lf.i ?_) (fun c1=>⟨_,ICover_r l[i],Br.i (fun c2=>Lf.i ?_) (fun c2=>⟨_,_,Look.i ?_⟩)⟩))⟩ (by omega) g⟩
  ·rw [if_pos (.inl c)] at q0; exact q0 (by decide)
  ·rw [if_pos (.inr c1)] at q0; exact q0 (by decide)
  ·rw [if_neg (fun e=>e.elim c c1),if_pos (by omega)] at q0; exact q0 (by decide)
  ·rw [if_neg (fun e=>e.elim c c1),if_neg (by omega)] at q0 q1
   show Br (m.getD l[i].Asset.ISIN false) _ _
   rw [hm]
   refine Br.i (fun c3=>Lf.i ?_) (fun c3=>Br.i (fun c4=>Lf.i ?_) (fun c4=>⟨_,Put.i (Num.n (by omega) ?_)⟩))
   ·rw [if_pos (.inl c3)] at q0; exact q0 (by decide)
   ·rw [if_pos (.inr c4)] at q0; exact q0 (by decide)
   ·have e:¬ (l[i].Asset.ISIN∈seen∨l[i].Asset.ISIN≠l[i].Lot.ISIN):=fun e=>e.elim c3 c4
    rw [if_neg e] at q0 q1
    refine ih (i+1) _ (seen++[l[i].Asset.ISIN]) (by omega) (fun k => ?_) q0 q1
    rw [getD_put]
    by_cases ek:k=l[i].Asset.ISIN
    ·rw [if_pos (show k=(toH l[i]).Asset.ISIN from ek),decide_eq_true (by rw [ek]; simp)]
    ·rw [if_neg (show ¬ k=(toH l[i]).Asset.ISIN from ek),hm]
     exact decide_eq_decide.2 (by simp [ek])
theorem Check_r {l:List RI}:zcr_r (l.map toH) (wrongS l):=by
 refine zcr_of ?_
 unfold zcr_w wrongS
 rw [lenM_eq,List.length_map]
 refine Br.i (fun c=>Rt.i (by rw [if_pos (by omega)])) (fun c => ?_)
 exact check_l (by omega) l.length 0 GM.nil [] (by omega) (fun k=>rfl) (fun h=>Rt.i (by rw [if_neg (by omega)]; rfl)) (fun h=>Rt.i (by rw [if_neg (by omega)]; exact h.symm))
theorem rwrong_l1 {l:List RI} {i:Nat} (hi:i<l.length) (hl:l.length≤64) {Q0 Q1:Unit→Prop}:∀ (n k:Nat),n+k=i→(l[i].Asset.ISIN∈((l.take i).drop k).map (·.Asset.ISIN)→Q0 ())→(l[i].Asset.ISIN∉((l.take i).drop k).map (·.Asset.ISIN)→Q1 ())→zar_L1 l i Q0 Q1 (k:Int):=by
 intro n
 induction n with
 |zero=>
  intro k h q0 q1
  refine zar_l1 ?_
  unfold zar_w1
  exact Br.neg (by omega) (Lf.i (q1 (by rw [List.drop_of_length_le (by simp; omega)]; simp)))
 |succ n ih=>
  intro k h q0 q1
  refine zar_l1 ?_
  unfold zar_w1
  have hk:k<l.length:=by omega
  have g:l[(k:Int).toNat]? = some l[k]:=by simp [hk]
  have g2:l[(i:Int).toNat]? = some l[i]:=by simp [hi]
  have hk2:k<(l.take i).length:=by simp; omega
  rw [List.drop_eq_getElem_cons hk2,List.map_cons,List.getElem_take] at q0 q1
  refine Br.pos (by omega) ⟨l[k],Got.i ⟨l[i],Got.i (Br.i (fun c=>Lf.i (q0 (by rw [c]; simp))) (fun c=>Num.n (by omega) (ih (k+1) (by omega) (fun hm=>q0 (List.mem_cons_of_mem _ hm)) (fun hm=>q1 ?_)))) (by omega) g2⟩ (by omega) g⟩
  intro hx
  rcases List.mem_cons.1 hx with e | e
  ·exact c e.symm
  ·exact hm e
theorem rwrong_l {l:List RI} {Q0:Int→Prop} {Q1:Unit→Prop} (hl:l.length≤64):∀ (n i:Nat),n+i=l.length→
  (wrongL ((l.take i).map (·.Asset.ISIN)) (l.drop i)≠0→Q0 (wrongL ((l.take i).map (·.Asset.ISIN)) (l.drop i)))→(wrongL ((l.take i).map (·.Asset.ISIN)) (l.drop i)=0→Q1 ())→zar_L0 l Q0 Q1 (i:Int):=by
 intro n
 induction n with
 |zero=>
  intro i h q0 q1
  refine zar_l0 ?_
  unfold zar_w0
  rw [lenM_eq]
  rw [List.drop_of_length_le (by omega)] at q1
  exact Br.neg (by omega) (Lf.i (q1 rfl))
 |succ n ih=>
  intro i h q0 q1
  have hs:i<l.length:=by omega
  refine zar_l0 ?_
  unfold zar_w0
  rw [lenM_eq]
  rw [List.drop_eq_getElem_cons hs] at q0 q1
  have g:l[(i:Int).toNat]? = some l[i]:=by simp [hs]
  have z:(0:Int)≤(i:Int):=by omega
  simp only [wrongL] at q0 q1
  refine Br.pos (by omega) ⟨l[i],Got.i (Got.i (Got.i ⟨_,RCover_r,Br.i (fun c=>Lf.i ?_) (fun c=>Got.i (Br.i (fun c1=>Lf.i ?_) (fun c1=>Br.i (fun c2=>Lf.i ?_) (fun c2=>Got.i (Got.i (Br.i (fun c3=>Lf.i ?_) (fun c3 => ?_)) z g) z g))) z g)⟩ z g) z g) z g⟩
  ·rw [if_pos (.inl c)] at q0; exact q0 (by decide)
  ·rw [if_pos (.inr c1)] at q0; exact q0 (by decide)
  ·rw [if_neg (fun e=>e.elim c c1),if_pos (by unfold covC; omega)] at q0; exact q0 (by decide)
  ·rw [if_neg (fun e=>e.elim c c1),if_neg (by unfold covC; omega),if_pos (.inr c3)] at q0; exact q0 (by decide)
  ·have c3:=Decidable.not_not.1 c3
   rw [if_neg (fun e=>e.elim c c1),if_neg (by unfold covC; omega)] at q0 q1
   refine rwrong_l1 hs hl i 0 (by omega) (fun hm=>Lf.i ?_) (fun hm=>Num.n (by omega) (ih (i+1) (by omega) (fun hx => ?_) (fun hx => ?_)))
   ·rw [List.drop_zero] at hm
    rw [if_pos (.inl hm)] at q0; exact q0 (by decide)
   ·rw [List.drop_zero] at hm
    have e:¬ (l[i].Asset.ISIN∈(l.take i).map (·.Asset.ISIN)∨l[i].Asset.ISIN≠l[i].Lot.ISIN):=fun e=>e.elim hm (fun k=>k c3)
    rw [if_neg e] at q0
    rw [List.take_succ_eq_append_getElem hs,List.map_append] at hx ⊢
    exact q0 hx
   ·rw [List.drop_zero] at hm
    have e:¬ (l[i].Asset.ISIN∈(l.take i).map (·.Asset.ISIN)∨l[i].Asset.ISIN≠l[i].Lot.ISIN):=fun e=>e.elim hm (fun k=>k c3)
    rw [if_neg e] at q1
    rw [List.take_succ_eq_append_getElem hs,List.map_append] at hx
    exact q1 hx
theorem Wrong_r {l:List RI}:zar_r l (wrongS l):=by
 refine zar_of ?_
 unfold zar_w wrongS
 rw [lenM_eq]
 refine Br.i (fun c=>Rt.i (by rw [if_pos (by omega)])) (fun c => ?_)
 exact rwrong_l (by omega) l.length 0 (by omega) (fun h=>Rt.i (by rw [if_neg (by omega)]; rfl)) (fun h=>Rt.i (by rw [if_neg (by omega)]; exact h.symm))
structure It (x:HI):Prop where
 good:goodS x.Price x.Cut=true
 pos:1≤x.Lot.Qty
 top:x.Lot.Qty≤1125899906842624
theorem it_of {x:RI} (h:¬ ((coverS x.Lot.Qty x.Price x.Cut).2≠0∨x.Lot.Qty=0)):It (toH x):=by
 have h1:(coverS x.Lot.Qty x.Price x.Cut).2=0:=Decidable.byContradiction fun k=>h (.inl k)
 have h2:x.Lot.Qty≠0:=fun k=>h (.inr k)
 unfold coverS at h1
 split at h1
 ·cases h1
 ·rename_i hg
  split at h1
  ·rename_i hw; exact absurd h1 hw
  ·rename_i hw
   have hw:=Decidable.not_not.1 hw
   unfold worthS at hw
   refine⟨by simpa [toH] using hg, ?_, ?_⟩
   ·show 1≤x.Lot.Qty
    by_cases k:x.Lot.Qty<0
    ·rw [if_pos k] at hw; cases hw
    ·omega
   ·show x.Lot.Qty≤1125899906842624
    by_cases k:x.Lot.Qty<0
    ·omega
    ·rw [if_neg k] at hw
     by_cases k2:1125899906842624<x.Lot.Qty
     ·rw [if_pos k2] at hw; cases hw
     ·omega
theorem wrong_it:∀ (l:List RI) (seen:List ByteArray),wrongL seen l=0→(∀ x∈l,It (toH x)∧covC x≤1125899906842624∧x.Asset.ISIN=x.Lot.ISIN∧x.Lot.ISIN∉seen)∧l.Pairwise (fun x y=>x.Lot.ISIN≠y.Lot.ISIN)
 |[],seen,_=>⟨by simp,List.Pairwise.nil⟩
 |x::l,seen,h=>by
  simp only [wrongL] at h
  split at h
  ·cases h
  ·rename_i h1
   split at h
   ·cases h
   ·rename_i h2
    split at h
    ·cases h
    ·rename_i h3
     have e:x.Asset.ISIN=x.Lot.ISIN:=Decidable.byContradiction fun k=>h3 (.inr k)
     have ns:x.Asset.ISIN∉seen:=fun k=>h3 (.inl k)
     obtain⟨i1,i2⟩:=wrong_it l _ h
     refine⟨fun y hy => ?_,List.pairwise_cons.2 ⟨fun y hy k => ?_,i2⟩⟩
     ·rcases List.mem_cons.1 hy with rfl | hy
      ·exact⟨it_of h1,by omega,e,by rw [← e]; exact ns⟩
      ·obtain⟨a,b,c,d⟩:=i1 y hy
       exact⟨a,b,c,fun k=>d (by simp [k])⟩
     ·have:=(i1 y hy).2.2.2
      exact this (by rw [← k,e]; simp)
end Go.Proofs.YtjlkmdmaimednaaGreat.Pure
namespace Go.Proofs.YtjlkmdmaimednaaGreat.Pure
open Go Go.Ab Go.Stable Go.Proofs.YtjlkmdmaimednaaGreat.R
set_option linter.unusedVariables false
def covH (x:HI):Int:=covC (toR x)
def setQ (x:HI)(q:Int):HI:=⟨⟨x.Lot.ISIN,q⟩,x.Asset,x.Price,x.Cut⟩
theorem HCover_r (x:HI):zdh_r x (covH x):=ICover_r (toR x)
theorem RHCovers_r (x:HI):zbz_r (toR x) (covH x):=RCovers_r (toR x)
theorem cov_q {x:HI} {q:Int} (h:goodS x.Price x.Cut=true) (hq:0≤q∧q≤1125899906842624):covH (setQ x q)=cv q x.Price x.Cut:=by
 have:=cover_val h hq
 show (coverS q x.Price x.Cut).1=_
 rw [this]
end Go.Proofs.YtjlkmdmaimednaaGreat.Pure
namespace Go.Proofs.YtjlkmdmaimednaaGreat.Pure
open Go Go.Ab Go.Stable Go.Proofs.YtjlkmdmaimednaaGreat.R
set_option linter.unusedVariables false
def atH (s:ByteArray):List HI→Int
 |[] => -1
 |y::l=>if y.Lot.ISIN=s then 0 else if atH s l<0 then -1 else atH s l+1
theorem atH_or (s:ByteArray):∀ l:List HI,(atH s l = -1∧∀ y∈l,y.Lot.ISIN≠s)∨(∃ A y B,l=A++y::B∧y.Lot.ISIN=s∧atH s l=(A.length:Nat))
 |[] => .inl ⟨rfl,by simp⟩
 |z::l=>by
  simp only [atH]
  by_cases c:z.Lot.ISIN=s
  ·rw [if_pos c]; exact .inr ⟨[],z,l,rfl,c,rfl⟩
  ·rw [if_neg c]
   rcases atH_or s l with⟨h1,h2⟩ | ⟨A,y,B,h1,h2,h3⟩
   ·rw [if_pos (by omega)]
    refine .inl ⟨rfl,fun y hy => ?_⟩
    rcases List.mem_cons.1 hy with rfl | hy
    ·exact c
    ·exact h2 y hy
   ·rw [if_neg (by omega)]
    exact .inr ⟨z::A,y,B,by rw [h1]; rfl,h2,by rw [h3]; simp⟩
theorem ofc_r (x:HI) (s:ByteArray):zfq_r x s (strEq x.Lot.ISIN s):=by
 refine zfq_of ?_
 unfold zfq_w
 exact Rt.i rfl
theorem ffind_l {out:List HI} {s:ByteArray} {Q0:Int→Prop} {Q1:Unit→Prop} (hl:out.length≤1000):∀ (n i:Nat),n+i=out.length→(0≤atH s (out.drop i)→Q0 (i+atH s (out.drop i)))→(atH s (out.drop i) = -1→Q1 ())→
  zal_L0 out s Q0 Q1 (i:Int):=by
 intro n
 induction n with
 |zero=>
  intro i h q0 q1
  refine zal_l0 ?_
  unfold zal_w0
  rw [lenM_eq]
  rw [List.drop_of_length_le (by omega)] at q1
  exact Br.neg (by omega) (Lf.i (q1 rfl))
 |succ n ih=>
  intro i h q0 q1
  have hs:i<out.length:=by omega
  refine zal_l0 ?_
  unfold zal_w0
  rw [lenM_eq]
  rw [List.drop_eq_getElem_cons hs] at q0 q1
  have g:out[(i:Int).toNat]? = some out[i]:=by simp [hs]
  simp only [atH] at q0 q1
  refine Br.pos (by omega) (InL.i ⟨out[i],EltG.i ⟨_,ofc_r _ _,Br.i (fun c=>Lf.i ?_) (fun c=>Num.n (by omega) ?_)⟩ g⟩ (by omega) (by simpa using hs))
  ·rw [if_pos c] at q0; simpa using q0 (Int.le_refl _)
  ·rw [if_neg c] at q0 q1
   refine ih (i+1) (by omega) (fun h0 => ?_) (fun h0=>q1 (by rw [if_pos (by omega)]))
   rw [if_neg (by omega)] at q0
   have:=q0 (by omega)
   rw [show (((i+1:Nat)):Int)+atH s (out.drop (i+1))=(i:Int)+(atH s (out.drop (i+1))+1) by omega]
   exact this
theorem FOf_r {t:zau} {out:List HI} {s:ByteArray} (hl:out.length≤1000):zfz_r ⟨t,out⟩ s (atH s out):=by
 refine zfz_of ?_
 unfold zfz_w
 refine⟨atH s out,zal_of ?_,Rt.i rfl⟩
 unfold zal_w
 exact ffind_l hl out.length 0 (by omega) (fun h=>Rt.i (by simp)) (fun h=>Rt.i (by simpa using h.symm))
theorem at_l {out:List HI} {s:ByteArray} {Q0:Int→Prop} {Q1:Unit→Prop} (hl:out.length≤1000):∀ (n i:Nat),n+i=out.length→(0≤atH s (out.drop i)→Q0 (i+atH s (out.drop i)))→(atH s (out.drop i) = -1→Q1 ())→
  zck_L0 (out.map toR) s Q0 Q1 (i:Int):=by
 intro n
 induction n with
 |zero=>
  intro i h q0 q1
  refine zck_l0 ?_
  unfold zck_w0
  rw [lenM_eq,List.length_map]
  rw [List.drop_of_length_le (by omega)] at q1
  exact Br.neg (by omega) (Lf.i (q1 rfl))
 |succ n ih=>
  intro i h q0 q1
  have hs:i<out.length:=by omega
  refine zck_l0 ?_
  unfold zck_w0
  rw [lenM_eq,List.length_map]
  rw [List.drop_eq_getElem_cons hs] at q0 q1
  have g:(out.map toR)[(i:Int).toNat]? = some (toR out[i]):=by simp [hs]
  simp only [atH] at q0 q1
  refine Br.pos (by omega) ⟨toR out[i],Got.i (Br.i (fun c=>Lf.i ?_) (fun c=>Num.n (by omega) ?_)) (by omega) g⟩
  ·have c:out[i].Lot.ISIN=s:=c
   rw [if_pos c] at q0; simpa using q0 (Int.le_refl _)
  ·have c:¬ out[i].Lot.ISIN=s:=c
   rw [if_neg c] at q0 q1
   refine ih (i+1) (by omega) (fun h0 => ?_) (fun h0=>q1 (by rw [if_pos (by omega)]))
   rw [if_neg (by omega)] at q0
   have:=q0 (by omega)
   rw [show (((i+1:Nat)):Int)+atH s (out.drop (i+1))=(i:Int)+(atH s (out.drop (i+1))+1) by omega]
   exact this
theorem RAt_r {out:List HI} {s:ByteArray} (hl:out.length≤1000):zck_r (out.map toR) s (atH s out):=by
 refine zck_of ?_
 unfold zck_w
 exact at_l hl out.length 0 (by omega) (fun h=>Rt.i (by simp)) (fun h=>Rt.i (by simpa using h.symm))
def q0F (t:zau)(x:HI)(qty cover:Int):Int:=
 if (leastS (openT t+cover) x.Price x.Cut).2=true∧(leastS (openT t+cover) x.Price x.Cut).1≤qty+x.Lot.Qty then (leastS (openT t+cover) x.Price x.Cut).1 else qty+x.Lot.Qty
def q1F (t:zau)(x:HI)(cover q:Int):Int:=if room t x.Asset<cv q x.Price x.Cut-cover then mostS (room t x.Asset+cover) x.Price x.Cut q else q
def qF (t:zau)(x:HI)(qty cover:Int):Int:=q1F t x cover (q0F t x qty cover)
theorem leastS_bd {n p c:Int} (h:goodS p c=true):0≤(leastS n p c).1∧(leastS n p c).1≤1125899906842624:=by
 unfold leastS
 rw [if_neg (by simp [h])]
 split
 ·simp
 ·split
  ·simp
  ·have:=least_nn (need:=n) h (by omega)
   simp; omega
theorem q0_bd {t:zau} {x:HI} {qty cover:Int} (hx:It x) (h0:0≤qty) (h1:qty+x.Lot.Qty≤1125899906842624):0≤q0F t x qty cover∧q0F t x qty cover≤1125899906842624:=by
 have h2:=hx.pos
 have:=leastS_bd (n:=openT t+cover) hx.good
 unfold q0F
 split <;> omega
theorem q1_bd {t:zau} {x:HI} {cover q:Int} (hx:It x) (ht:Tok t) (hc:0≤cover) (hq:0≤q∧q≤1125899906842624):(0≤q1F t x cover q∧q1F t x cover q≤1125899906842624)∧cv (q1F t x cover q) x.Price x.Cut-cover≤room t x.Asset:=by
 have hr:=room_le (a:=x.Asset) ht
 unfold q1F
 split
 ·have lp:=least_pos (c:=x.Cut) (p:=x.Price) hx.good (show 0≤room t x.Asset+cover by omega)
  unfold mostS
  rw [if_neg (by simp [hx.good]),if_neg (by omega),if_neg (by omega),if_neg (by omega)]
  split
  ·rename_i h
   have:=(most_le hx.good).1 h
   exact⟨hq,by omega⟩
  ·rename_i h
   have:=(most_le (limit:=room t x.Asset+cover) (q:=least (room t x.Asset+cover+1) x.Price x.Cut-1) hx.good).1 (by omega)
   exact⟨⟨by omega,by omega⟩,by omega⟩
 ·exact⟨hq,by omega⟩
theorem Total_r {t:zau} {out:List HI} {x:HI} {qty cover:Int} (ht:Tok t) (hs:0≤t.sum) (hx:It x) (h0:0≤qty) (h1:qty+x.Lot.Qty≤1125899906842624) (hc:0≤cover∧cover≤4835703278458516699):
  zdt_r ⟨t,out⟩ x qty cover (qF t x qty cover):=by
 refine zdt_of ?_
 unfold zdt_w
 dsimp only
 have hr:=room_le (a:=x.Asset) ht
 have hn:=ht.need
 have ho:0≤openT t∧openT t≤1125899906842624:=by unfold openT; omega
 have hp:=hx.pos
 have hb:=q0_bd (t:=t) (cover:=cover) hx h0 h1
 have hcv:=cv_bd hx.good hb
 have fin:∀ q,q=q0F t x qty cover→∃ r4:Int×Int,(zer_r q x.Price x.Cut r4)∧(Num .i64 (r4.1-cover) (Br (decide ((r4.1-cover)>room t x.Asset)) (Num .i64 (room t x.Asset+cover) (∃ r5:Int,(zcz_r (room t x.Asset+cover) x.Price x.Cut q r5)∧(zdt_e ⟨t,out⟩ (fun v_=>v_=qF t x qty cover) r5))) (zdt_e ⟨t,out⟩ (fun v_=>v_=qF t x qty cover) q))):=by
  intro q e
  subst e
  refine⟨_,Cover_r, ?_⟩
  rw [cover_val hx.good hb]
  refine Num.n (by omega) (Br.i (fun c=>Num.n (by omega) ⟨_,Most_r,Rt.i ?_⟩) (fun c=>Rt.i ?_))
  ·unfold qF q1F; rw [if_pos c]
  ·unfold qF q1F; rw [if_neg c]
 refine⟨_,TOpen_r ht,_,TRoom_r ht,Num.n (by omega) ⟨_,Least_r, ?_⟩⟩
 refine Br.b (fun c=>Num.n (by omega) (fin _ ?_)) (fun c=>Num.n (by omega) (Br.i (fun c2=>Num.n (by omega) (fin _ ?_)) (fun c2=>fin _ ?_)))
 ·have c:(leastS (openT t+cover) x.Price x.Cut).2=false:=by simpa using c
  unfold q0F; rw [c]; simp
 ·unfold q0F; rw [if_neg (by omega)]
 ·have c:(leastS (openT t+cover) x.Price x.Cut).2=true:=by simpa using c
  unfold q0F; rw [if_pos ⟨c,by omega⟩]
def wasF (out:List HI)(x:HI):HI:=if 0≤atH x.Lot.ISIN out then at_ out (atH x.Lot.ISIN out).toNat else setQ x 0
def nF (t:zau)(out:List HI)(x:HI):Int:=covH (setQ x (qF t x (wasF out x).Lot.Qty (covH (wasF out x))))-covH (wasF out x)
def stepF (s:zau×List HI)(x:HI):zau×List HI:=
 if nF s.1 s.2 x≤0 then s
 else (putT s.1 x.Asset (nF s.1 s.2 x),if 0≤atH x.Lot.ISIN s.2 then s.2.set (atH x.Lot.ISIN s.2).toNat (setQ x (qF s.1 x (wasF s.2 x).Lot.Qty (covH (wasF s.2 x)))) else s.2++[setQ x (qF s.1 x (wasF s.2 x).Lot.Qty (covH (wasF s.2 x)))])
def fillF:zau×List HI→List HI→zau×List HI
 |s,[]=>s
 |s,x::l=>if openT s.1=0 then s else fillF (stepF s x) l
structure Fi (out l:List HI):Prop where
 it:∀ x∈l,It x
 apart:l.Pairwise (fun x y=>x.Lot.ISIN≠y.Lot.ISIN)
 was:∀ y∈out,goodS y.Price y.Cut=true∧0≤y.Lot.Qty∧y.Lot.Qty≤1125899906842624
 both:∀ x∈l,∀ y∈out,y.Lot.ISIN=x.Lot.ISIN→y.Asset=x.Asset∧y.Price=x.Price∧y.Cut=x.Cut∧y.Lot.Qty+x.Lot.Qty≤1125899906842624
theorem was_or {out l:List HI} {x:HI} (h:Fi out (x::l)):goodS (wasF out x).Price (wasF out x).Cut=true∧0≤(wasF out x).Lot.Qty∧(wasF out x).Lot.Qty+x.Lot.Qty≤1125899906842624∧(wasF out x).Lot.Qty≤1125899906842624∧
  ((atH x.Lot.ISIN out = -1∧wasF out x=setQ x 0∧covH (wasF out x)=0)∨(∃ A B,out=A++wasF out x::B∧(wasF out x).Lot.ISIN=x.Lot.ISIN∧atH x.Lot.ISIN out=(A.length:Nat)∧∀ q,setQ (wasF out x) q=setQ x q)):=by
 have ix:=h.it x (by simp)
 have px:=ix.pos
 have tx:=ix.top
 rcases atH_or x.Lot.ISIN out with⟨h1,h2⟩ | ⟨A,y,B,h1,h2,h3⟩
 ·have e:wasF out x=setQ x 0:=by unfold wasF; rw [if_neg (by omega)]
  rw [e]
  refine⟨ix.good,Int.le_refl _, ?_,(by decide:(0:Int)≤1125899906842624), .inl ⟨h1,rfl, ?_⟩⟩
  ·show 0+x.Lot.Qty≤_; omega
  ·rw [cov_q ix.good (by decide)]; simp [cv]
 ·have e:wasF out x=y:=by
   unfold wasF; rw [if_pos (by omega),h3,Int.toNat_natCast]
   exact at_of (by rw [h1]; simp)
  have hy:=h.was y (by rw [h1]; simp)
  obtain⟨b1,b2,b3,b4⟩:=h.both x (by simp) y (by rw [h1]; simp) h2
  rw [e]
  refine⟨hy.1,hy.2.1,b4,hy.2.2, .inr ⟨A,B,h1,h2,h3,fun q => ?_⟩⟩
  unfold setQ; rw [h2,b1,b2,b3]
theorem step_out {t:zau} {out l:List HI} {x:HI} (h:Fi out (x::l)) (ht:Tok t):Fi (stepF (t,out) x).2 l∧(stepF (t,out) x).2.length≤out.length+1∧nF t out x≤room t x.Asset∧(0≤qF t x (wasF out x).Lot.Qty (covH (wasF out x))∧qF t x (wasF out x).Lot.Qty (covH (wasF out x))≤1125899906842624)∧0≤covH (wasF out x)∧covH (wasF out x)≤4835703278458516699:=by
 obtain⟨w1,w2,w3,w4,w5⟩:=was_or h
 have ix:=h.it x (by simp)
 have cw:covH (wasF out x)=cv (wasF out x).Lot.Qty (wasF out x).Price (wasF out x).Cut:=cov_q (x:=wasF out x) w1 ⟨w2,w4⟩
 have cb:=cv_bd w1 ⟨w2,w4⟩
 rw [← cw] at cb
 have qb:=q1_bd (cover:=covH (wasF out x)) ix ht cb.1 (q0_bd (t:=t) (cover:=covH (wasF out x)) ix w2 w3)
 have qb1:0≤qF t x (wasF out x).Lot.Qty (covH (wasF out x))∧qF t x (wasF out x).Lot.Qty (covH (wasF out x))≤1125899906842624:=qb.1
 have hn:nF t out x≤room t x.Asset:=by
  unfold nF
  rw [cov_q ix.good qb1]
  exact qb.2
 have rest:∀ o:List HI,(∀ y∈o,y∈out∨y=setQ x (qF t x (wasF out x).Lot.Qty (covH (wasF out x))))→Fi o l:=fun o ho=>by
  refine⟨fun z hz=>h.it z (by simp [hz]),(List.pairwise_cons.1 h.apart).2,fun y hy => ?_,fun z hz y hy he => ?_⟩
  ·rcases ho y hy with hy | rfl
   ·exact h.was y hy
   ·exact⟨ix.good,qb1⟩
  ·rcases ho y hy with hy | rfl
   ·exact h.both z (by simp [hz]) y hy he
   ·exact absurd he ((List.pairwise_cons.1 h.apart).1 z hz)
 refine⟨?_, ?_,hn,qb1,cb⟩
 ·unfold stepF
  split
  ·exact rest _ fun y hy => .inl hy
  ·dsimp only
   split
   ·exact rest _ fun y hy=>(List.mem_or_eq_of_mem_set hy)
   ·exact rest _ fun y hy=>by
     rcases List.mem_append.1 hy with hy | hy
     ·exact .inl hy
     ·exact .inr (List.mem_singleton.1 hy)
 ·unfold stepF
  split
  ·simp
  ·dsimp only
   split <;> simp
def stepR (t:zau)(out:List HI)(r:zah)(x:HI):zah:=if nF t out x≤0 then r else withR r x.Asset (nF t out x)
theorem step_al {t:zau} {out l:List HI} {x:HI} {r:zah} {n:Nat} (h:Fi out (x::l)) (ha:Al r t n) (hn:n≤1000):Al (stepR t out r x) (stepF (t,out) x).1 (n+1):=by
 have hs:=step_out h ha.tok
 unfold stepR stepF
 dsimp only
 by_cases c:nF t out x≤0
 ·rw [if_pos c,if_pos c]
  exact⟨ha.tok,ha.need,ha.issuer,ha.asset,ha.i,ha.a,ha.s,by have:=ha.len; omega,ha.bd,by have:=ha.s0; dsimp only; omega⟩
 ·rw [if_neg c,if_neg c]
  exact Al_put ha hn (by omega) hs.2.2.1
end Go.Proofs.YtjlkmdmaimednaaGreat.Pure
namespace Go.Proofs.YtjlkmdmaimednaaGreat.Pure
open Go Go.Ab Go.Stable Go.Proofs.YtjlkmdmaimednaaGreat.R
set_option linter.unusedVariables false
theorem fill_l {L:List HI} {Q0 Q1:(List zaa)×Int×Int×Int×Int×(GM Int Int)×(GM ByteArray Int)→Prop} (hl:L.length≤100):∀ (n i:Nat) (t:zau) (out:List HI) (r:zah) (m:Nat),n+i=L.length→Fi out (L.drop i)→Al r t m→m+n≤500→out.length+n≤500→
  (∀ t' out',fillF (t,out) (L.drop i)=(t',out')→Q0 (out',t'.need,t'.issuer,t'.asset,t'.sum,t'.issuers,t'.assets)∧Q1 (out',t'.need,t'.issuer,t'.asset,t'.sum,t'.issuers,t'.assets))→
  zbc_L0 L Q0 Q1 (i:Int) t.need t.issuer t.asset t.sum t.issuers t.assets out:=by
 intro n
 induction n with
 |zero=>
  intro i t out r m h hf ha hm ho q
  refine zbc_l0 ?_
  unfold zbc_w0
  rw [lenM_eq]
  rw [List.drop_of_length_le (by omega)] at q
  exact Br.neg (by omega) (Lf.i (q t out rfl).1)
 |succ n ih=>
  intro i t out r m h hf ha hm ho q
  have hs:i<L.length:=by omega
  refine zbc_l0 ?_
  unfold zbc_w0
  rw [lenM_eq]
  rw [List.drop_eq_getElem_cons hs] at q hf
  have g:L[(i:Int).toNat]? = some L[i]:=by simp [hs]
  refine Br.pos (by omega) ⟨L[i],Got.i ⟨openT t,TOpen_r ha.tok,Br.i (fun c=>Lf.i ?_) (fun c=>⟨_,FOf_r (t:=t) (out:=out) (by omega), ?_⟩)⟩ (by omega) g⟩
  ·refine (q t out ?_).2
   simp only [fillF]; rw [if_pos c]
  ·simp only [fillF] at q
   rw [if_neg c] at q
   obtain⟨w1,w2,w3,w4,w5⟩:=was_or hf
   obtain⟨s1,s2,s3,s4,s5,s6⟩:=step_out hf ha.tok
   have sal:=step_al hf ha (by omega)
   have ix:=hf.it L[i] (List.mem_cons_self ..)
   have hsum:=ha.s0
   have hroom:=room_le (a:=L[i].Asset) ha.tok
   have nx:Num .i64 ((i:Int)+1) (zbc_L0 L Q0 Q1 ((i:Int)+1) (stepF (t,out) L[i]).1.need (stepF (t,out) L[i]).1.issuer (stepF (t,out) L[i]).1.asset (stepF (t,out) L[i]).1.sum (stepF (t,out) L[i]).1.issuers (stepF (t,out) L[i]).1.assets (stepF (t,out) L[i]).2):=
    Num.n (by omega) (ih (i+1) _ _ _ (m+1) (by omega) s1 sal (by omega) (by omega) q)
   have cn:=covC_ok (toR (setQ L[i] (qF t L[i] (wasF out L[i]).Lot.Qty (covH (wasF out L[i])))))
   have J:zbc_j8 (atH L[i].Lot.ISIN out) L (i:Int) L[i] t.need t.issuer t.asset t.sum t.issuers t.assets out (zbc_L0 L Q0 Q1) Q0 Q1 ((wasF out L[i]).Lot.Qty,covH (wasF out L[i])):=by
    unfold zbc_j8
    refine Jn.i ⟨_,Total_r ha.tok hsum.1 ix w2 w3 ⟨s5,s6⟩,_,HCover_r (setQ L[i] (qF t L[i] (wasF out L[i]).Lot.Qty (covH (wasF out L[i])))),Num.n ?_ ?_⟩
    ·have:covH (setQ L[i] (qF t L[i] (wasF out L[i]).Lot.Qty (covH (wasF out L[i]))))=covC (toR (setQ L[i] (qF t L[i] (wasF out L[i]).Lot.Qty (covH (wasF out L[i]))))):=rfl
     omega
    ·show Br (decide (nF t out L[i]≤0)) _ _
     unfold stepF at nx
     dsimp only at nx
     refine Br.i (fun c2 => ?_) (fun c2 => ?_)
     ·rw [if_pos c2] at nx; exact nx
     ·rw [if_neg c2] at nx
      refine⟨(0,putT t L[i].Asset (nF t out L[i])),TAdd_ok ha.tok (show 0≤nF t out L[i] by omega) s3,Br.neg (fun h=>h rfl) ?_⟩
      dsimp only at nx ⊢
      refine Br.i (fun c3 => ?_) (fun c3 => ?_)
      ·rw [if_pos c3] at nx
       rcases w5 with⟨e1,_⟩ | ⟨A,B,e1,e2,e3,e4⟩
       ·omega
       ·have hlt:(atH L[i].Lot.ISIN out).toNat<out.length:=by rw [e3,Int.toNat_natCast,e1]; simp
        have gw:out[(atH L[i].Lot.ISIN out).toNat]? = some (wasF out L[i]):=by
         rw [e3,Int.toNat_natCast]
         have:(A++wasF out L[i]::B)[A.length]? = some (wasF out L[i]):=by simp
         rw [← e1] at this; exact this
        refine InL.i ⟨wasF out L[i],EltS.i ?_ gw⟩ c3 (by simpa using hlt)
        have e5:=e4 (qF t L[i] (wasF out L[i]).Lot.Qty (covH (wasF out L[i])))
        show Num .i64 ((i:Int)+1) (zbc_L0 L Q0 Q1 ((i:Int)+1) _ _ _ _ _ _ (out.set (atH L[i].Lot.ISIN out).toNat (setQ (wasF out L[i]) (qF t L[i] (wasF out L[i]).Lot.Qty (covH (wasF out L[i]))))))
        rw [e5]; exact nx
      ·rw [if_neg c3] at nx
       exact App2.i (app96 (by simp; omega)) nx
   rcases w5 with⟨e1,e2,e3⟩ | ⟨A,B,e1,e2,e3,e4⟩
   ·rw [e2] at J
    have e3':covH (setQ L[i] 0)=0:=by rw [← e2]; exact e3
    rw [e3'] at J
    exact Br.neg (by omega) J
   ·have hlt:(atH L[i].Lot.ISIN out).toNat<out.length:=by rw [e3,Int.toNat_natCast,e1]; simp
    have gw:out[(atH L[i].Lot.ISIN out).toNat]? = some (wasF out L[i]):=by
     rw [e3,Int.toNat_natCast]
     have:(A++wasF out L[i]::B)[A.length]? = some (wasF out L[i]):=by simp
     rw [← e1] at this; exact this
    have c3:0≤atH L[i].Lot.ISIN out:=by omega
    exact Br.pos (by omega) (InL.i ⟨wasF out L[i],EltG.i (InL.i (EltG.i ⟨_,HCover_r _,J⟩ gw) c3 (by simpa using hlt)) gw⟩ c3 (by simpa using hlt))
def fillR:zau×List HI→zah→List HI→zah
 |_,r,[]=>r
 |s,r,x::l=>if openT s.1=0 then r else fillR (stepF s x) (stepR s.1 s.2 r x) l
theorem rfill_l {L:List HI} {Q:(List zac)×Int×Int×Int×(List zaj)→Prop} (hl:L.length≤100):∀ (n i:Nat) (t:zau) (out:List HI) (r:zah) (m:Nat),n+i=L.length→Fi out (L.drop i)→Al r t m→m+n≤500→out.length+n≤500→
  Q ((fillF (t,out) (L.drop i)).2.map toR,(fillR (t,out) r (L.drop i)).Need,(fillR (t,out) r (L.drop i)).Issuer,(fillR (t,out) r (L.drop i)).Asset,(fillR (t,out) r (L.drop i)).L)→
  zaq_L0 (L.map toR) Q (i:Int) (out.map toR) r.Need r.Issuer r.Asset r.L:=by
 intro n
 induction n with
 |zero=>
  intro i t out r m h hf ha hm ho q
  refine zaq_l0 ?_
  unfold zaq_w0
  rw [lenM_eq,List.length_map]
  rw [List.drop_of_length_le (by omega)] at q
  exact Br.neg (by omega) (Lf.i q)
 |succ n ih=>
  intro i t out r m h hf ha hm ho q
  have hs:i<L.length:=by omega
  refine zaq_l0 ?_
  unfold zaq_w0
  rw [lenM_eq,List.length_map]
  rw [List.drop_eq_getElem_cons hs] at q hf
  have g:(L.map toR)[(i:Int).toNat]? = some (toR L[i]):=by simp [hs]
  have o0:0≤openT t:=by unfold openT; omega
  have hneed:=ha.tok.need
  have hsum:=ha.s0
  have o1:openT t≤1125899906842624:=by unfold openT; omega
  refine Br.pos (by omega) ⟨openT t,ROpen_r ha (by omega),Br.i (fun c=>⟨toR L[i],Got.i ⟨_,RAt_r (by omega), ?_⟩ (by omega) g⟩) (fun c=>Lf.i ?_)⟩
  case refine_2=>
   simp only [fillF,fillR] at q
   rw [if_pos (by omega),if_pos (by omega)] at q
   exact q
  simp only [fillF,fillR] at q
  rw [if_neg (by omega),if_neg (by omega)] at q
  obtain⟨w1,w2,w3,w4,w5⟩:=was_or hf
  obtain⟨s1,s2,s3,s4,s5,s6⟩:=step_out hf ha.tok
  have sal:=step_al hf ha (by omega)
  have ix:=hf.it L[i] (List.mem_cons_self ..)
  have px:=ix.pos
  have hroom:=room_le (a:=L[i].Asset) ha.tok
  have nx:Num .i64 ((i:Int)+1) (zaq_L0 (L.map toR) Q ((i:Int)+1) ((stepF (t,out) L[i]).2.map toR) (stepR t out r L[i]).Need (stepR t out r L[i]).Issuer (stepR t out r L[i]).Asset (stepR t out r L[i]).L):=
   Num.n (by omega) (ih (i+1) _ _ _ (m+1) (by omega) s1 sal (by omega) (by omega) q)
  have cn:=covC_ok (toR (setQ L[i] (qF t L[i] (wasF out L[i]).Lot.Qty (covH (wasF out L[i])))))
  have wC:=RHCovers_r (wasF out L[i])
  have nC:=RHCovers_r (setQ L[i] (qF t L[i] (wasF out L[i]).Lot.Qty (covH (wasF out L[i]))))
  have J8:zaq_j8 (out.map toR) (L.map toR) (i:Int) (atH L[i].Lot.ISIN out) r.Need r.Issuer r.Asset r.L (toR L[i]) ((wasF out L[i]).Lot.ISIN,(wasF out L[i]).Lot.Qty,(wasF out L[i]).Asset.ISIN,(wasF out L[i]).Asset.Issuer,(wasF out L[i]).Asset.Rating,(wasF out L[i]).Asset.Maturity,(wasF out L[i]).Asset.Currency,(wasF out L[i]).Price,(wasF out L[i]).Cut) (zaq_L0 (L.map toR) Q) Q (qF t L[i] (wasF out L[i]).Lot.Qty (covH (wasF out L[i]))):=by
   unfold zaq_j8
   refine Jn.i ⟨_,nC,_,wC, ?_⟩
   unfold stepF stepR at nx
   dsimp only at nx
   refine Br.i (fun c2 => ?_) (fun c2=>⟨_,nC,_,wC,Num.n ?_ ⟨(withR r L[i].Asset (nF t out L[i]),0),RAdd_r ha (by omega) (show 0≤nF t out L[i] by unfold nF; omega) s3, ?_⟩⟩)
   ·rw [if_pos (show nF t out L[i]≤0 by unfold nF; omega),if_pos (show nF t out L[i]≤0 by unfold nF; omega)] at nx; exact nx
   ·have:covH (setQ L[i] (qF t L[i] (wasF out L[i]).Lot.Qty (covH (wasF out L[i]))))=covC (toR (setQ L[i] (qF t L[i] (wasF out L[i]).Lot.Qty (covH (wasF out L[i]))))):=rfl
    omega
   ·rw [if_neg (show ¬ nF t out L[i]≤0 by unfold nF; omega),if_neg (show ¬ nF t out L[i]≤0 by unfold nF; omega)] at nx
    dsimp only at nx ⊢
    refine ApZ.i (app96 (by simp; omega)) (Br.i (fun c3 => ?_) (fun c3 => ?_))
    ·have c3:0≤atH L[i].Lot.ISIN out:=c3
     rw [if_pos c3,List.map_set] at nx
     rcases w5 with⟨e1,_⟩ | ⟨A,B,e1,e2,e3,e4⟩
     ·omega
     ·have hlt:(atH L[i].Lot.ISIN out).toNat<out.length:=by rw [e3,Int.toNat_natCast,e1]; simp
      have gw:(out.map toR)[(atH L[i].Lot.ISIN out).toNat]? = some (toR (wasF out L[i])):=by
       rw [e3,Int.toNat_natCast,List.getElem?_map]
       have:(A++wasF out L[i]::B)[A.length]? = some (wasF out L[i]):=by simp
       rw [← e1] at this; rw [this]; rfl
      exact InL.i ⟨toR (wasF out L[i]),EltS.i nx gw⟩ c3 (by simpa using hlt)
    ·have c3:¬ 0≤atH L[i].Lot.ISIN out:=c3
     rw [if_neg c3,List.map_append] at nx
     exact App2.i (app96 (by simp; omega)) nx
  have hb:=q0_bd (t:=t) (cover:=covH (wasF out L[i])) ix w2 w3
  have hcv:=cv_bd ix.good hb
  have J7:zaq_j7 (out.map toR) (L.map toR) (i:Int) (atH L[i].Lot.ISIN out) r.Need r.Issuer r.Asset r.L (toR L[i]) ((wasF out L[i]).Lot.ISIN,(wasF out L[i]).Lot.Qty,(wasF out L[i]).Asset.ISIN,(wasF out L[i]).Asset.Issuer,(wasF out L[i]).Asset.Rating,(wasF out L[i]).Asset.Maturity,(wasF out L[i]).Asset.Currency,(wasF out L[i]).Price,(wasF out L[i]).Cut) (zaq_L0 (L.map toR) Q) Q (q0F t L[i] (wasF out L[i]).Lot.Qty (covH (wasF out L[i]))):=by
   unfold zaq_j7
   have rR:=RRoom_r (a:=L[i].Asset) ha (by omega)
   refine Jn.i ⟨_,RCover_r,_,wC, ?_⟩
   rw [show coverS (q0F t L[i] (wasF out L[i]).Lot.Qty (covH (wasF out L[i]))) (toR L[i]).Price (toR L[i]).Cut=_ from cover_val ix.good hb]
   have hD : -9223372036854775808≤cv (q0F t L[i] (wasF out L[i]).Lot.Qty (covH (wasF out L[i]))) L[i].Price L[i].Cut-covH (wasF out L[i])∧cv (q0F t L[i] (wasF out L[i]).Lot.Qty (covH (wasF out L[i]))) L[i].Price L[i].Cut-covH (wasF out L[i])≤9223372036854775807:=by omega
   refine Num.n hD ⟨_,rR,Br.i (fun c2=>⟨_,rR,_,wC,Num.n (by omega) ⟨_,RMost_r (by omega), ?_⟩⟩) (fun c2 => ?_)⟩
   ·have c2:cv (q0F t L[i] (wasF out L[i]).Lot.Qty (covH (wasF out L[i]))) L[i].Price L[i].Cut-covH (wasF out L[i])>room t L[i].Asset:=c2
    have:qF t L[i] (wasF out L[i]).Lot.Qty (covH (wasF out L[i]))=mostS (room t L[i].Asset+covH (wasF out L[i])) L[i].Price L[i].Cut (q0F t L[i] (wasF out L[i]).Lot.Qty (covH (wasF out L[i]))):=by unfold qF q1F; rw [if_pos c2]
    rw [this] at J8; exact J8
   ·have c2:¬ cv (q0F t L[i] (wasF out L[i]).Lot.Qty (covH (wasF out L[i]))) L[i].Price L[i].Cut-covH (wasF out L[i])>room t L[i].Asset:=c2
    have:qF t L[i] (wasF out L[i]).Lot.Qty (covH (wasF out L[i]))=q0F t L[i] (wasF out L[i]).Lot.Qty (covH (wasF out L[i])):=by unfold qF q1F; rw [if_neg c2]
    rw [this] at J8; exact J8
  have J6:zaq_j6 (out.map toR) (L.map toR) (i:Int) (atH L[i].Lot.ISIN out) r.Need r.Issuer r.Asset r.L (toR L[i]) (zaq_L0 (L.map toR) Q) Q ((wasF out L[i]).Lot.ISIN,(wasF out L[i]).Lot.Qty,(wasF out L[i]).Asset.ISIN,(wasF out L[i]).Asset.Issuer,(wasF out L[i]).Asset.Rating,(wasF out L[i]).Asset.Maturity,(wasF out L[i]).Asset.Currency,(wasF out L[i]).Price,(wasF out L[i]).Cut):=by
   unfold zaq_j6
   dsimp only
   have hQ : -9223372036854775808≤(wasF out L[i]).Lot.Qty+L[i].Lot.Qty∧(wasF out L[i]).Lot.Qty+L[i].Lot.Qty≤9223372036854775807:=by omega
   refine Jn.i (Num.n hQ ⟨openT t,ROpen_r ha (by omega),_,wC,Num.n (by omega) ⟨_,RLeast_r (by omega), ?_⟩⟩)
   refine Br.b (fun c2=>Br.i (fun c3 => ?_) (fun c3 => ?_)) (fun c2 => ?_)
   ·have c2:(leastS (openT t+covH (wasF out L[i])) L[i].Price L[i].Cut).2=true:=c2
    have c3:(leastS (openT t+covH (wasF out L[i])) L[i].Price L[i].Cut).1<(wasF out L[i]).Lot.Qty+L[i].Lot.Qty:=c3
    have:q0F t L[i] (wasF out L[i]).Lot.Qty (covH (wasF out L[i]))=(leastS (openT t+covH (wasF out L[i])) L[i].Price L[i].Cut).1:=by unfold q0F; rw [if_pos ⟨c2,by omega⟩]
    rw [this] at J7; exact J7
   ·have c2:(leastS (openT t+covH (wasF out L[i])) L[i].Price L[i].Cut).2=true:=c2
    have c3:¬ (leastS (openT t+covH (wasF out L[i])) L[i].Price L[i].Cut).1<(wasF out L[i]).Lot.Qty+L[i].Lot.Qty:=c3
    have:q0F t L[i] (wasF out L[i]).Lot.Qty (covH (wasF out L[i]))=(wasF out L[i]).Lot.Qty+L[i].Lot.Qty:=by unfold q0F; split <;> omega
    rw [this] at J7; exact J7
   ·have c2:(leastS (openT t+covH (wasF out L[i])) L[i].Price L[i].Cut).2=false:=c2
    have:q0F t L[i] (wasF out L[i]).Lot.Qty (covH (wasF out L[i]))=(wasF out L[i]).Lot.Qty+L[i].Lot.Qty:=by unfold q0F; rw [c2]; simp
    rw [this] at J7; exact J7
  rcases w5 with⟨e1,e2,e3⟩ | ⟨A,B,e1,e2,e3,e4⟩
  ·rw [e2] at J6
   exact Br.neg (by show ¬ atH L[i].Lot.ISIN out≥0; omega) J6
  ·have hlt:(atH L[i].Lot.ISIN out).toNat<out.length:=by rw [e3,Int.toNat_natCast,e1]; simp
   have gw:(out.map toR)[(atH L[i].Lot.ISIN out).toNat]? = some (toR (wasF out L[i])):=by
    rw [e3,Int.toNat_natCast,List.getElem?_map]
    have:(A++wasF out L[i]::B)[A.length]? = some (wasF out L[i]):=by simp
    rw [← e1] at this; rw [this]; rfl
   have c3:0≤atH L[i].Lot.ISIN out:=by omega
   exact Br.pos c3 ⟨toR (wasF out L[i]),Got.i J6 c3 gw⟩
end Go.Proofs.YtjlkmdmaimednaaGreat.Pure
namespace Go.Proofs.YtjlkmdmaimednaaGreat.Pure
open Go Go.Ab Go.Stable Go.Proofs.YtjlkmdmaimednaaGreat.R
set_option linter.unusedVariables false
theorem mg_perm {α:Type} {le:α→α→Bool}:∀ U V:List α,(mg le U V).Perm (U++V)
 |[],V=>by simp [mg]
 |u::U,[]=>by simp [mg]
 |u::U,v::V=>by
  rw [mg]
  split
  ·exact (mg_perm U (v::V)).cons u
  ·exact ((mg_perm (u::U) V).cons v).trans (List.perm_middle (l₁:=u::U) (a:=v) (l₂:=V)).symm
theorem isort_perm':∀ (L R:List E),(L.foldl (insS leE) R).Perm (R++L)
 |[],R=>by simp
 |x::L,R=>by
  rw [List.foldl_cons]
  refine (isort_perm' L _).trans ?_
  have:=(mg_perm (le:=leE) R [x]).append_right L
  rw [List.append_assoc] at this
  exact this
theorem isort_perm (L:List E):(isort leE L).Perm L:=by
 have:=isort_perm' L []
 simpa [isort] using this
theorem isort_len' (L:List E):(isort leE L).length=L.length:=(isort_perm L).length_eq
end Go.Proofs.YtjlkmdmaimednaaGreat.Pure
namespace Go.Proofs.YtjlkmdmaimednaaGreat.Pure
open Go Go.Ab Go.Stable Go.Proofs.YtjlkmdmaimednaaGreat.R
set_option linter.unusedVariables false
theorem Fi_new {l:List RI} (h:wrongS l=0):Fi [] (isort leE (l.map toH))∧l.length≤64:=by
 unfold wrongS at h
 split at h
 ·cases h
 ·rename_i hl
  obtain⟨w1,w2⟩:=wrong_it l [] h
  refine⟨⟨fun x hx => ?_, ?_,by simp,by simp⟩,by omega⟩
  ·have:=(isort_perm _).mem_iff.1 hx
   obtain⟨y,hy,rfl⟩:=List.mem_map.1 this
   exact (w1 y hy).1
  ·refine ((isort_perm (l.map toH)).pairwise_iff (fun h e=>h e.symm)).2 ?_
   exact List.Pairwise.map _ (fun a b hab=>hab) w2
theorem fillR_al:∀ (L:List HI) (t:zau) (out:List HI) (r:zah) (m:Nat),Fi out L→Al r t m→m+L.length≤500→∃ m',Al (fillR (t,out) r L) (fillF (t,out) L).1 m'∧m'≤500∧(fillF (t,out) L).2.length≤out.length+L.length∧Fi (fillF (t,out) L).2 []
 |[],t,out,r,m,hf,ha,hm=>⟨m,ha,by simpa using hm,by simp [fillF],by simpa [fillF] using hf⟩
 |x::L,t,out,r,m,hf,ha,hm=>by
  simp only [List.length_cons] at hm
  simp only [fillF,fillR]
  by_cases c:openT t=0
  ·rw [if_pos c,if_pos c]; exact⟨m,ha,by omega,by simp,⟨by simp,List.Pairwise.nil,hf.was,by simp⟩⟩
  ·rw [if_neg c,if_neg c]
   obtain⟨s1,s2,_⟩:=step_out hf ha.tok
   obtain⟨m',a,b,d,e⟩:=fillR_al L _ _ _ (m+1) s1 (step_al hf ha (by omega)) (by omega)
   have d:(fillF (stepF (t,out) x) L).2.length≤(stepF (t,out) x).2.length+L.length:=d
   exact⟨m',a,b,by simp only [List.length_cons]; omega,e⟩
theorem FFill_r {l:List RI} {t:zau} {out:List HI} {r:zah} {m:Nat} (hl:l.length≤64) (hf:Fi out (isort leE (l.map toH))) (ha:Al r t m) (hm:m≤100) (ho:out.length≤100):
  zbc_r ⟨t,out⟩ (l.map toH) ⟨(fillF (t,out) (isort leE (l.map toH))).1,(fillF (t,out) (isort leE (l.map toH))).2⟩:=by
 have e:(isort leE (l.map toH)).length=l.length:=by rw [isort_len']; simp
 refine zbc_of ?_
 unfold zbc_w
 refine⟨_,Rank_r (by simp; omega),fill_l (by omega) (isort leE (l.map toH)).length 0 t out r m (by omega) (by simpa using hf) ha (by omega) (by omega) (fun t' out' h => ?_)⟩
 rw [List.drop_zero] at h
 exact⟨Rt.i (by rw [h]),Rt.i (by rw [h])⟩
theorem RFilled_r {l:List RI} {t:zau} {out:List HI} {r:zah} {m:Nat} (hl:l.length≤64) (hf:Fi out (isort leE (l.map toH))) (ha:Al r t m) (hm:m≤100) (ho:out.length≤100):
  zaq_r r (out.map toR) l (fillR (t,out) r (isort leE (l.map toH)),(fillF (t,out) (isort leE (l.map toH))).2.map toR):=by
 have e:(isort leE (l.map toH)).length=l.length:=by rw [isort_len']; simp
 refine zaq_of ?_
 unfold zaq_w
 exact⟨_,RRank_r (by omega),rfill_l (by omega) (isort leE (l.map toH)).length 0 t out r m (by omega) (by simpa using hf) ha (by omega) (by omega) (Rt.i (by rw [List.drop_zero]))⟩
def planS (t:zau)(out:List HI):zel×Int:=
 if (mergeG [] (out.map (·.Lot))).2≠0 then (⟨[],0,0⟩,(mergeG [] (out.map (·.Lot))).2) else (⟨(mergeG [] (out.map (·.Lot))).1,t.sum,openT t⟩,0)
def toP (p:zel):zdb:=⟨p.Lots,p.Cover,p.Short⟩
theorem Plan_r {t:zau} {out:List HI} (ht:Tok t) (ho:out.length≤1000):zfk_r ⟨t,out⟩ (planS t out):=by
 refine zfk_of ?_
 unfold zfk_w planS
 refine⟨_,LOf_r (by show out.length≤_; omega),Br.i (fun c=>Rt.i (by rw [if_pos c])) (fun c=>⟨_,TSum_r,_,TOpen_r ht,Rt.i (by rw [if_neg c])⟩)⟩
theorem RPlan_r {r:zah} {t:zau} {out:List HI} {m:Nat} (ha:Al r t m) (hm:m≤1000) (ho:out.length≤1000):zfl_r r (out.map toR) (toP (planS t out).1,(planS t out).2):=by
 have hl:=ha.len
 refine zfl_of ?_
 unfold zfl_w planS
 have s:=RSum_r ha.bd (by omega)
 rw [ha.s] at s
 have o:=ROf_r (a:=out.map toR) (by simp; omega)
 rw [List.map_map,show ((fun x:RI=>x.Lot)∘toR)=(fun x:HI=>x.Lot) from rfl] at o
 refine⟨_,o,Br.i (fun c=>Rt.i (by rw [if_pos c]; rfl)) (fun c=>⟨_,s,_,ROpen_r ha (by omega),Rt.i (by rw [if_neg c]; rfl)⟩)⟩
end Go.Proofs.YtjlkmdmaimednaaGreat.Pure
namespace Go.Proofs.YtjlkmdmaimednaaGreat.Pure
open Go Go.Ab Go.Stable Go.Proofs.YtjlkmdmaimednaaGreat.R
set_option linter.unusedVariables false
def sumW (p:HI→Bool):List HI→Int
 |[]=>0
 |y::l=>(if p y=true then covH y else 0)+sumW p l
theorem covH_nn (y:HI):0≤covH y:=(covC_ok (toR y)).1
theorem sumW_nn (p:HI→Bool):∀ l:List HI,0≤sumW p l
 |[]=>Int.le_refl _
 |y::l=>by
  have:=covH_nn y; have:=sumW_nn p l
  simp only [sumW]; split <;> omega
def pT (_:HI):Bool:=true
def sumQ (s:ByteArray):List zab→Int
 |[]=>0
 |y::l=>(if y.ISIN=s then y.Qty else 0)+sumQ s l
theorem qtyG_other {s s':ByteArray} {q:Int} (hne:s'≠s):∀ (l:List zab) (d:Bool),qtyG s' (setG s q d l)=qtyG s' l
 |[],true=>rfl
 |[],false=>by simp only [setG,qtyG]; rw [if_neg (fun e=>hne e.symm)]
 |y::l,d=>by
  have ih:=qtyG_other (q:=q) hne l
  have e1:∀ r:List zab,qtyG s' ((if y.ISIN=s then [] else [y])++r)=if y.ISIN=s' then y.Qty else qtyG s' r:=fun r=>by
   by_cases c:y.ISIN=s
   ·rw [if_pos c,if_neg (fun e=>hne (by rw [← e,c]))]; rfl
   ·rw [if_neg c]; rfl
  cases d with
  |true=>simp only [setG]; rw [e1,ih true]; rfl
  |false=>
   simp only [setG]
   split
   ·rw [e1,ih false]; rfl
   ·show qtyG s' (⟨s,q⟩::_)=_
    simp only [qtyG]
    rw [if_neg (fun e=>hne e.symm),e1,ih true]
theorem qtyG_add {l:List zab} {x:zab} (h:Lk l) (h0:(addG l x).2=0) (s:ByteArray):qtyG s (addG l x).1=qtyG s l+(if x.ISIN=s then x.Qty else 0):=by
 obtain⟨A,B,e,hA,hB,hc⟩:=add_cases (x:=x) h
 unfold addG at h0 ⊢
 split at h0
 ·cases h0
 ·rename_i n1
  split at h0
  ·cases h0
  ·rename_i n2
   rw [if_neg n1,if_neg n2]
   by_cases c:x.ISIN=s
   ·subst c
    rw [if_pos rfl]
    have:∀ (q:Int) (R:List zab),qtyG x.ISIN (A++⟨x.ISIN,q⟩::R)=q:=fun q R=>by
     rw [qtyG_A hA]; simp [qtyG]
    rcases hc with⟨_,c2,c3⟩ | ⟨y,B',_,_,_,c2,c3⟩
    ·rw [c3,this]
    ·rw [c3,this]
   ·rw [if_neg c,Int.add_zero]
    exact qtyG_other (fun e=>c e.symm) l false
theorem qtyG_merge (s:ByteArray):∀ (l out r:List zab),Lk out→mergeG out l=(r,0)→qtyG s r=qtyG s out+sumQ s l∧Lk r
 |[],out,r,ho,h=>by
  simp only [mergeG,Prod.mk.injEq,and_true] at h
  subst h; exact⟨by simp [sumQ],ho⟩
 |x::l,out,r,ho,h=>by
  simp only [mergeG] at h
  split at h
  ·simp at h
  ·rename_i c
   split at h
   ·rename_i c2; simp only [Prod.mk.injEq] at h; exact absurd h.2 c2
   ·rename_i c2
    have c2:=Decidable.not_not.1 c2
    obtain⟨h1,h2⟩:=qtyG_merge s l _ r (add_ok ho ⟨by omega,by omega⟩ c2) h
    refine⟨?_,h2⟩
    rw [h1,qtyG_add ho c2 s]
    simp only [sumQ]; omega
theorem R1Plus_r {a b:Int} (ha:0≤a) (hb:0≤b) (h:a+b≤9223372036854775807):zef_r a b (a+b,0):=by
 refine zef_of ?_
 unfold zef_w
 refine Br.i (fun c=>Num.n (by omega) (Br.neg (by omega) (Br.neg (by omega) (Num.n (by omega) (Rt.i rfl))))) (fun c=>Br.neg (by omega) (Num.n (by omega) (Rt.i rfl)))
theorem total_l {l:List HI} (h2:l.length≤1000) {Q0 Q1:Int→Prop}:∀ (n i:Nat) (acc:Int),n+i=l.length→0≤acc→acc+sumW pT (l.drop i)≤9223372036854775807→Q1 (acc+sumW pT (l.drop i))→zbx_L0 (l.map toR) Q0 Q1 acc (i:Int):=by
 intro n
 induction n with
 |zero=>
  intro i acc h ha hb q
  refine zbx_l0 ?_
  unfold zbx_w0
  rw [lenM_eq,List.length_map]
  rw [List.drop_of_length_le (by omega)] at q
  exact Br.neg (by omega) (Lf.i (by simpa [sumW] using q))
 |succ n ih=>
  intro i acc h ha hb q
  have hi:i<l.length:=by omega
  refine zbx_l0 ?_
  unfold zbx_w0
  rw [lenM_eq,List.length_map]
  rw [List.drop_eq_getElem_cons hi] at q hb
  have g:(l.map toR)[(i:Int).toNat]? = some (toR l[i]):=by simp [hi]
  simp only [sumW,pT,if_true] at q hb
  have nn:=sumW_nn pT (l.drop (i+1))
  have cn:=covH_nn l[i]
  have nn':0≤sumW (fun _=>true) (l.drop (i+1)):=nn
  refine Br.pos (by omega) ⟨toR l[i],Got.i ⟨_,RHCovers_r l[i],_,R1Plus_r ha cn (by omega),Br.neg (fun k=>k rfl) (Num.n (by omega) (ih (i+1) _ (by omega) (by omega) ?_ ?_))⟩ (by omega) g⟩
  ·show acc+covH l[i]+sumW pT (l.drop (i+1))≤_
   rw [Int.add_assoc]; exact hb
  ·show Q1 (acc+covH l[i]+sumW pT (l.drop (i+1)))
   rw [Int.add_assoc]; exact q
theorem Total15_r {l:List HI} (h2:l.length≤1000) (hb:sumW pT l≤9223372036854775807):zbx_r (l.map toR) (sumW pT l,0):=by
 refine zbx_of ?_
 unfold zbx_w
 exact total_l h2 l.length 0 0 (by omega) (Int.le_refl _) (by simpa using hb) (Rt.i (by simp))
end Go.Proofs.YtjlkmdmaimednaaGreat.Pure
namespace Go.Proofs.YtjlkmdmaimednaaGreat.Pure
open Go Go.Ab Go.Stable Go.Proofs.YtjlkmdmaimednaaGreat.R
set_option linter.unusedVariables false
set_option linter.unusedSimpArgs false
def marS (t need:Int):Int×Int:=if t-need < -9223372036854775808∨9223372036854775807<t-need then (0,9) else (t-need,0)
theorem wrap_hi {n:Int} (h1:9223372036854775807<n) (h2:n≤18446744073709551615):IntKind.wrap .i64 n=n-18446744073709551616:=by
 simp [IntKind.wrap,IntKind.bits,IntKind.signed]; omega
theorem wrap_in {n:Int} (h1 : -9223372036854775808≤n) (h2:n≤9223372036854775807):IntKind.wrap .i64 n=n:=iw _ h1 h2
theorem FMinus_r {a b:Int} (ha:0≤a∧a≤9223372036854775807) (hb:InK .i64 b):zfa_r a b (marS a b):=by
 have hb' : -9223372036854775808≤b∧b≤9223372036854775807:=hb
 refine zfa_of ?_
 unfold zfa_w marS
 refine Br.pos (by omega) (Br.i (fun c => ?_) (fun c=>Br.neg (by omega) (Rt.i ?_)))
 ·by_cases k:9223372036854775807<a-b
  ·rw [wrap_hi k (by omega)]
   exact Br.pos (by omega) (Rt.i (by rw [if_pos (.inr k)]))
  ·rw [wrap_in (by omega) (by omega)]
   exact Br.neg (by omega) (Br.neg (by omega) (Rt.i (by rw [if_neg (by omega)])))
 ·rw [wrap_in (by omega) (by omega),if_neg (by omega)]
theorem FPlus_r {a b:Int} (ha:0≤a) (hb:0≤b) (h:a+b≤9223372036854775807):zfj_r a b (a+b,0):=by
 refine zfj_of ?_
 unfold zfj_w
 refine Num.n (by omega) (Br.i (fun c=>Br.i (fun c2=>Br.neg (by omega) (Br.neg (by omega) (Rt.i rfl))) (fun c2=>Br.neg (by omega) (Rt.i rfl))) (fun c=>Br.neg (by omega) (Rt.i rfl)))
theorem htotal_l {l:List HI} (h2:l.length≤1000) {Q0 Q1:Int→Prop}:∀ (n i:Nat) (acc:Int),n+i=l.length→0≤acc→acc+sumW pT (l.drop i)≤9223372036854775807→Q1 (acc+sumW pT (l.drop i))→zcw_L0 l Q0 Q1 acc (i:Int):=by
 intro n
 induction n with
 |zero=>
  intro i acc h ha hb q
  refine zcw_l0 ?_
  unfold zcw_w0
  rw [lenM_eq]
  rw [List.drop_of_length_le (by omega)] at q
  exact Br.neg (by omega) (Lf.i (by simpa [sumW] using q))
 |succ n ih=>
  intro i acc h ha hb q
  have hi:i<l.length:=by omega
  refine zcw_l0 ?_
  unfold zcw_w0
  rw [lenM_eq]
  rw [List.drop_eq_getElem_cons hi] at q hb
  have g:l[(i:Int).toNat]? = some l[i]:=by simp [hi]
  simp only [sumW,pT,if_true] at q hb
  have nn:=sumW_nn pT (l.drop (i+1))
  have cn:=covH_nn l[i]
  have nn':0≤sumW (fun _=>true) (l.drop (i+1)):=nn
  refine Br.pos (by omega) ⟨l[i],Got.i ⟨_,HCover_r l[i],_,FPlus_r ha cn (by omega),Br.neg (fun k=>k rfl) (Num.n (by omega) (ih (i+1) _ (by omega) (by omega) ?_ ?_))⟩ (by omega) g⟩
  ·show acc+covH l[i]+sumW pT (l.drop (i+1))≤_
   rw [Int.add_assoc]; exact hb
  ·show Q1 (acc+covH l[i]+sumW pT (l.drop (i+1)))
   rw [Int.add_assoc]; exact q
theorem Margin_r {l:List HI} {need:Int} (h2:l.length≤1000) (hb:sumW pT l≤9223372036854775807) (hN:InK .i64 need):zga_r l need (marS (sumW pT l) need):=by
 refine zga_of ?_
 unfold zga_w
 refine⟨(sumW pT l,0),zcw_of ?_,Br.neg (fun k=>k rfl) ⟨_,FMinus_r ⟨sumW_nn _ _,hb⟩ hN,Rt.i rfl⟩⟩
 unfold zcw_w
 exact htotal_l h2 l.length 0 0 (by omega) (Int.le_refl _) (by simpa using hb) (Rt.i (by simp))
theorem sumW_le {M:Int} (hM:0≤M):∀ {l:List HI},(∀ x∈l,covH x≤M)→sumW pT l≤l.length*M
 |[],_=>by simp [sumW]
 |x::l,h=>by
  have:=sumW_le hM (l:=l) fun y hy=>h y (by simp [hy])
  have h1:=h x (by simp)
  simp only [sumW,pT,if_true,List.length_cons]
  have this':sumW (fun _=>true) l≤l.length*M:=this
  have e:((l.length+1:Nat):Int)*M=l.length*M+M:=by rw [Int.natCast_add,Int.add_mul]; simp
  rw [e]
  show covH x+sumW (fun _=>true) l≤_
  omega
structure Good (l:List RI):Prop where
 len:l.length≤64
 it:∀ x∈l.map toH,It x
 apart:(l.map toH).Pairwise (fun x y=>x.Lot.ISIN≠y.Lot.ISIN)
 cov:∀ x∈l.map toH,covH x≤1125899906842624
 sum:sumW pT (l.map toH)≤72057594037927936
theorem good_of {l:List RI} (h:wrongS l=0):Good l:=by
 unfold wrongS at h
 split at h
 ·cases h
 ·rename_i hl
  obtain⟨h1,h2⟩:=wrong_it l [] h
  have cov:∀ x∈l.map toH,covH x≤1125899906842624:=fun x hx=>by
   obtain⟨y,hy,rfl⟩:=List.mem_map.1 hx
   exact (h1 y hy).2.1
  have hs:=sumW_le (M:=1125899906842624) (by omega) cov
  rw [List.length_map] at hs
  refine⟨by omega,fun x hx => ?_,List.pairwise_map.2 h2,cov,by omega⟩
  obtain⟨y,hy,rfl⟩:=List.mem_map.1 hx
  exact (h1 y hy).1
end Go.Proofs.YtjlkmdmaimednaaGreat.Pure
namespace Go.Proofs.YtjlkmdmaimednaaGreat.Pure
open Go Go.Ab Go.Sort Go.Proofs.YtjlkmdmaimednaaGreat.R
set_option linter.unusedVariables false
section
variable {κ ν:Type} [DecidableEq κ]
end
structure Kt (t:zau) (n:Nat):Prop where
 i:t.issuers.ok (InK .i64)
 a:t.assets.ok (fun b:ByteArray=>b.size≤maxLen)
 li:t.issuers.es.length≤n
 la:t.assets.es.length≤n
def bLt (x y:ByteArray):Prop:=x.data.toList<y.data.toList
section
variable {α:Type} (lt:α→α→Prop) [DecidableRel lt]
@[reducible] def okk (hv:Bool) (last k:α):Prop:=hv=false∨lt last k
variable {lt}
end
instance:DecidableRel bLt:=fun a b=>decidable_of_iff (a.data.toList<b.data.toList) Iff.rfl
end Go.Proofs.YtjlkmdmaimednaaGreat.Pure
namespace Go.Proofs.YtjlkmdmaimednaaGreat.Pure
open Go Go.Ab Go.Stable Go.Proofs.YtjlkmdmaimednaaGreat.R
set_option linter.unusedVariables false
instance (b:zav) (need:Int):Decidable (newOk b need):=by unfold newOk; exact instDecidableAnd
end Go.Proofs.YtjlkmdmaimednaaGreat.Pure
namespace Go.Proofs.YtjlkmdmaimednaaGreat.Pure
open Go Go.Ab Go.Stable Go.Proofs.YtjlkmdmaimednaaGreat.R
set_option linter.unusedVariables false
def kqF (t:zau)(x:HI):Int:=if room t x.Asset<covH x then mostS (room t x.Asset) x.Price x.Cut x.Lot.Qty else x.Lot.Qty
def keepF (s:zau×List HI)(x:HI):zau×List HI:=
 if 0<covH (setQ x (kqF s.1 x)) then (putT s.1 x.Asset (covH (setQ x (kqF s.1 x))),s.2++[setQ x (kqF s.1 x)]) else s
def keepR (t:zau)(r:zah)(x:HI):zah:=if 0<covH (setQ x (kqF t x)) then withR r x.Asset (covH (setQ x (kqF t x))) else r
def keptF:zau×List HI→List HI→zau×List HI
 |s,[]=>s
 |s,x::l=>keptF (keepF s x) l
def keptR:zau×List HI→zah→List HI→zah
 |_,r,[]=>r
 |s,r,x::l=>keptR (keepF s x) (keepR s.1 r x) l
theorem kq_bd {t:zau} {x:HI} (ht:Tok t) (hx:It x):0≤kqF t x∧kqF t x≤x.Lot.Qty∧0≤covH (setQ x (kqF t x))∧covH (setQ x (kqF t x))≤room t x.Asset:=by
 have hr:=room_le (a:=x.Asset) ht
 have p1:=hx.pos
 have p2:=hx.top
 have ec:covH x=cv x.Lot.Qty x.Price x.Cut:=cov_q (x:=x) (q:=x.Lot.Qty) hx.good ⟨by omega,p2⟩
 have main:(0≤kqF t x∧kqF t x≤x.Lot.Qty)∧cv (kqF t x) x.Price x.Cut≤room t x.Asset:=by
  unfold kqF
  split
  ·have lp:=least_pos (c:=x.Cut) (p:=x.Price) hx.good hr.1
   unfold mostS
   rw [if_neg (by simp [hx.good]),if_neg (by omega),if_neg (by omega),if_neg (by omega)]
   split
   ·rename_i h
    exact⟨by omega,(most_le hx.good).1 h⟩
   ·rename_i h
    exact⟨by omega,(most_le (limit:=room t x.Asset) (q:=least (room t x.Asset+1) x.Price x.Cut-1) hx.good).1 (by omega)⟩
  ·exact⟨by omega,by omega⟩
 have e:=cov_q (x:=x) hx.good (q:=kqF t x) ⟨main.1.1,by omega⟩
 have b:=cv_bd hx.good (q:=kqF t x) ⟨main.1.1,by omega⟩
 rw [e]
 exact⟨main.1.1,main.1.2,b.1,main.2⟩
theorem keep_al {t:zau} {out:List HI} {x:HI} {r:zah} {n:Nat} (ha:Al r t n) (hn:n≤1000) (hx:It x):Al (keepR t r x) (keepF (t,out) x).1 (n+1):=by
 obtain⟨k1,k2,k3,k4⟩:=kq_bd ha.tok hx
 unfold keepR keepF
 dsimp only
 by_cases c:0<covH (setQ x (kqF t x))
 ·rw [if_pos c,if_pos c]
  exact Al_put ha hn k3 k4
 ·rw [if_neg c,if_neg c]
  exact⟨ha.tok,ha.need,ha.issuer,ha.asset,ha.i,ha.a,ha.s,by have:=ha.len; omega,ha.bd,by have:=ha.s0; dsimp only; omega⟩
def From (h:List HI)(out:List HI):Prop:=∀ y∈out,∃ x∈h,∃ q,0≤q∧q≤x.Lot.Qty∧y=setQ x q
theorem keep_from {h out:List HI} {t:zau} {x:HI} (hx:x∈h) (ix:It x) (ht:Tok t) (hf:From h out):From h (keepF (t,out) x).2∧(keepF (t,out) x).2.length≤out.length+1:=by
 obtain⟨k1,k2,k3,k4⟩:=kq_bd ht ix
 unfold keepF
 split
 ·refine⟨fun y hy => ?_,by simp⟩
  rcases List.mem_append.1 hy with hy | hy
  ·exact hf y hy
  ·exact⟨x,hx,_,k1,k2,List.mem_singleton.1 hy⟩
 ·exact⟨hf,by simp⟩
theorem keptR_al {h:List HI}:∀ (L:List HI) (t:zau) (out:List HI) (r:zah) (m:Nat),(∀ x∈L,x∈h∧It x)→From h out→Al r t m→m+L.length≤500→∃ m',Al (keptR (t,out) r L) (keptF (t,out) L).1 m'∧m'≤m+L.length∧(keptF (t,out) L).2.length≤out.length+L.length∧From h (keptF (t,out) L).2
 |[],t,out,r,m,hi,hf,ha,hm=>⟨m,ha,by simp,by simp [keptF],by simpa [keptF] using hf⟩
 |x::L,t,out,r,m,hi,hf,ha,hm=>by
  simp only [List.length_cons] at hm
  simp only [keptF,keptR]
  have hx:=hi x (List.mem_cons_self ..)
  obtain⟨f1,f2⟩:=keep_from hx.1 hx.2 ha.tok hf
  obtain⟨m',a,b,d,e⟩:=keptR_al L _ _ _ (m+1) (fun y hy=>hi y (List.mem_cons_of_mem _ hy)) f1 (keep_al ha (by omega) hx.2) (by omega)
  have d:(keptF (keepF (t,out) x) L).2.length≤(keepF (t,out) x).2.length+L.length:=d
  exact⟨m',a,by simp only [List.length_cons]; omega,by simp only [List.length_cons]; omega,e⟩
theorem kept_l {L:List HI} {Q:(List zaa)×Int×Int×Int×Int×(GM Int Int)×(GM ByteArray Int)→Prop} (hl:L.length≤100):∀ (n i:Nat) (t:zau) (out:List HI) (r:zah) (m:Nat),n+i=L.length→(∀ x∈L.drop i,It x)→Al r t m→m+n≤500→out.length+n≤500→
  Q ((keptF (t,out) (L.drop i)).2,(keptF (t,out) (L.drop i)).1.need,(keptF (t,out) (L.drop i)).1.issuer,(keptF (t,out) (L.drop i)).1.asset,(keptF (t,out) (L.drop i)).1.sum,(keptF (t,out) (L.drop i)).1.issuers,(keptF (t,out) (L.drop i)).1.assets)→
  zcb_L0b L Q (i:Int) out t.need t.issuer t.asset t.sum t.issuers t.assets:=by
 intro n
 induction n with
 |zero=>
  intro i t out r m h hi ha hm ho q
  refine zcb_l0b ?_
  unfold zcb_w0b
  rw [lenM_eq]
  rw [List.drop_of_length_le (by omega)] at q
  exact Br.neg (by omega) (Lf.i q)
 |succ n ih=>
  intro i t out r m h hi ha hm ho q
  have hs:i<L.length:=by omega
  refine zcb_l0b ?_
  unfold zcb_w0b
  rw [lenM_eq]
  rw [List.drop_eq_getElem_cons hs] at q hi
  have g:L[(i:Int).toNat]? = some L[i]:=by simp [hs]
  simp only [keptF] at q
  have ix:=hi L[i] (List.mem_cons_self ..)
  obtain⟨k1,k2,k3,k4⟩:=kq_bd ha.tok ix
  have fl:(keepF (t,out) L[i]).2.length≤out.length+1:=by unfold keepF; split <;> simp
  have nx:Num .i64 ((i:Int)+1) (zcb_L0b L Q ((i:Int)+1) (keepF (t,out) L[i]).2 (keepF (t,out) L[i]).1.need (keepF (t,out) L[i]).1.issuer (keepF (t,out) L[i]).1.asset (keepF (t,out) L[i]).1.sum (keepF (t,out) L[i]).1.issuers (keepF (t,out) L[i]).1.assets):=
   Num.n (by omega) (ih (i+1) _ _ _ (m+1) (by omega) (fun x hx=>hi x (List.mem_cons_of_mem _ hx)) (keep_al ha (by omega) ix) (by omega) (by omega) q)
  unfold keepF at nx
  dsimp only at nx
  refine Br.pos (by omega) ⟨L[i],Got.i ⟨_,HCover_r _,_,TRoom_r ha.tok,Br.i (fun c=>⟨_,TRoom_r ha.tok,_,Most_r,_,HCover_r (setQ L[i] (mostS (room t L[i].Asset) L[i].Price L[i].Cut L[i].Lot.Qty)), ?_⟩) (fun c=>⟨_,HCover_r (setQ L[i] L[i].Lot.Qty), ?_⟩)⟩ (by omega) g⟩
  ·have e:kqF t L[i]=mostS (room t L[i].Asset) L[i].Price L[i].Cut L[i].Lot.Qty:=by unfold kqF; rw [if_pos c]
   rw [e] at nx k3 k4
   refine Br.i (fun c2 => ?_) (fun c2 => ?_)
   ·rw [if_pos c2] at nx
    exact⟨_,TAdd_ok ha.tok k3 k4,Br.pos rfl (App2.i (app96 (by simp; omega)) nx)⟩
   ·rw [if_neg c2] at nx; exact nx
  ·have e:kqF t L[i]=L[i].Lot.Qty:=by unfold kqF; rw [if_neg c]
   rw [e] at nx k3 k4
   refine Br.i (fun c2 => ?_) (fun c2 => ?_)
   ·rw [if_pos c2] at nx
    exact⟨_,TAdd_ok ha.tok k3 k4,Br.pos rfl (App2.i (app96 (by simp; omega)) nx)⟩
   ·rw [if_neg c2] at nx; exact nx
theorem Put_r {r:zah} {t:zau} {out:List HI} {x:HI} {m:Nat} (ha:Al r t m) (hm:m≤400) (ho:out.length≤500) (ix:It x):
  zfn_r r (out.map toR) (toR x) (kqF t x) (keepR t r x,(keepF (t,out) x).2.map toR):=by
 obtain⟨k1,k2,k3,k4⟩:=kq_bd ha.tok ix
 have nC:=RHCovers_r (setQ x (kqF t x))
 refine zfn_of ?_
 unfold zfn_w keepR keepF
 dsimp only
 refine⟨_,nC,Br.i (fun c=>Rt.i ?_) (fun c=>⟨_,nC,_,RAdd_r ha (by omega) k3 k4,ApZ.i (app96 (by simp; omega)) (App2.i (app96 (by simp; omega)) (Rt.i ?_))⟩)⟩
 ·rw [if_neg (by omega),if_neg (by omega)]
 ·rw [if_pos (by omega),if_pos (by omega)]
  rw [List.map_append]; rfl
theorem rkept_l {L:List HI} {Q:(List zac)×Int×Int×Int×(List zaj)→Prop} (hl:L.length≤100):∀ (n i:Nat) (t:zau) (out:List HI) (r:zah) (m:Nat),n+i=L.length→(∀ x∈L.drop i,It x)→Al r t m→m+n≤300→out.length+n≤300→
  Q ((keptF (t,out) (L.drop i)).2.map toR,(keptR (t,out) r (L.drop i)).Need,(keptR (t,out) r (L.drop i)).Issuer,(keptR (t,out) r (L.drop i)).Asset,(keptR (t,out) r (L.drop i)).L)→
  zcn_L0 (L.map toR) Q (out.map toR) (i:Int) r.Need r.Issuer r.Asset r.L:=by
 intro n
 induction n with
 |zero=>
  intro i t out r m h hi ha hm ho q
  refine zcn_l0 ?_
  unfold zcn_w0
  rw [lenM_eq,List.length_map]
  rw [List.drop_of_length_le (by omega)] at q
  exact Br.neg (by omega) (Lf.i q)
 |succ n ih=>
  intro i t out r m h hi ha hm ho q
  have hs:i<L.length:=by omega
  refine zcn_l0 ?_
  unfold zcn_w0
  rw [lenM_eq,List.length_map]
  rw [List.drop_eq_getElem_cons hs] at q hi
  have g:(L.map toR)[(i:Int).toNat]? = some (toR L[i]):=by simp [hs]
  simp only [keptF,keptR] at q
  have ix:=hi L[i] (List.mem_cons_self ..)
  have hroom:=room_le (a:=L[i].Asset) ha.tok
  have fl:(keepF (t,out) L[i]).2.length≤out.length+1:=by unfold keepF; split <;> simp
  have rR:=RRoom_r (a:=L[i].Asset) ha (by omega)
  have P:=Put_r (out:=out) ha (by omega) (by omega) ix
  have nx:Num .i64 ((i:Int)+1) (zcn_L0 (L.map toR) Q ((keepF (t,out) L[i]).2.map toR) ((i:Int)+1) (keepR t r L[i]).Need (keepR t r L[i]).Issuer (keepR t r L[i]).Asset (keepR t r L[i]).L):=
   Num.n (by omega) (ih (i+1) _ _ _ (m+1) (by omega) (fun x hx=>hi x (List.mem_cons_of_mem _ hx)) (keep_al ha (by omega) ix) (by omega) (by omega) q)
  refine Br.pos (by omega) ⟨toR L[i],Got.i ⟨_,RHCovers_r L[i],_,rR,Br.i (fun c=>⟨_,rR,_,RMost_r (by omega), ?_⟩) (fun c => ?_)⟩ (by omega) g⟩
  ·have e:kqF t L[i]=mostS (room t L[i].Asset) L[i].Price L[i].Cut L[i].Lot.Qty:=by unfold kqF; rw [if_pos c]
   rw [e] at P
   exact⟨_,P,nx⟩
  ·have e:kqF t L[i]=L[i].Lot.Qty:=by unfold kqF; rw [if_neg c]
   rw [e] at P
   exact⟨_,P,nx⟩
theorem RKept_r {l:List RI} {t:zau} {r:zah} {m:Nat} (hl:l.length≤64) (hi:∀ x∈isort leE (l.map toH),It x) (ha:Al r t m) (hm:m≤100):
  zcn_r r l (keptR (t,[]) r (isort leE (l.map toH)),(keptF (t,[]) (isort leE (l.map toH))).2.map toR):=by
 have e:(isort leE (l.map toH)).length=l.length:=by rw [isort_len']; simp
 refine zcn_of ?_
 unfold zcn_w
 exact⟨_,RRank_r (by omega),rkept_l (by omega) (isort leE (l.map toH)).length 0 t [] r m (by omega) (by simpa using hi) ha (by omega) (by simp; omega) (Rt.i (by rw [List.drop_zero]))⟩
theorem Kept_r1 {b:zav} {l:List RI} {need:Int} (h:newOk b need) (hw:wrongS l=0):zcb_r1 b (l.map toH) need (⟨(keptF (newT b need,[]) (isort leE (l.map toH))).1,(keptF (newT b need,[]) (isort leE (l.map toH))).2⟩,0):=by
 obtain⟨f1,f2⟩:=Fi_new hw
 have e:(isort leE (l.map toH)).length=l.length:=by rw [isort_len']; simp
 refine zcb_of1 ?_
 unfold zcb_w
 refine .inr ⟨_,New_r1 h,Br.neg (fun k=>k rfl) ⟨_,Check_r,Br.neg (fun k=>k hw) ⟨_,Rank_r (by simp; omega),kept_l (by omega) (isort leE (l.map toH)).length 0 (newT b need) [] _ 0 (by omega) (by simpa using f1.it) (Al_new h) (by omega) (by simp; omega) (Rt.i (by rw [List.drop_zero]))⟩⟩⟩
theorem Kept_r0 {b:zav} {l:List RI} {need:Int} {v:Int} (hv:(¬ newOk b need∧v=1)∨(newOk b need∧wrongS l≠0∧v=wrongS l)):zcb_r0 b (l.map toH) need v:=by
 refine zcb_of0 ?_
 unfold zcb_w
 rcases hv with⟨h,rfl⟩ | ⟨h,h2,rfl⟩
 ·exact .inl ⟨_,New_r0 h,Br.pos (by decide) (Rt.i rfl)⟩
 ·exact .inr ⟨_,New_r1 h,Br.neg (fun k=>k rfl) ⟨_,Check_r,Br.pos h2 (Rt.i rfl)⟩⟩
theorem asset_eq {a b:zag}:(a.ISIN=b.ISIN∧a.Issuer=b.Issuer∧a.Rating=b.Rating∧a.Maturity=b.Maturity∧a.Currency=b.Currency∧True)↔a=b:=by
 constructor
 ·rintro ⟨h1,h2,h3,h4,h5,_⟩
  cases a; cases b; simp_all
 ·rintro rfl; simp
instance (a b:zag):Decidable (a=b):=decidable_of_iff _ asset_eq
def chk (x y:HI):Int:=if x.Asset=y.Asset then if x.Price=y.Price then if x.Cut=y.Cut then if 1125899906842624-y.Lot.Qty<x.Lot.Qty then 9 else 0 else 7 else 7 else 7
def ag1 (x:HI):List HI→Int
 |[]=>0
 |y::l=>if x.Lot.ISIN=y.Lot.ISIN then (if chk x y=0 then ag1 x l else chk x y) else ag1 x l
def agreeS (h:List HI):List HI→Int
 |[]=>0
 |x::l=>if ag1 x h=0 then agreeS h l else ag1 x h
theorem agree_l1 {h f:List HI} {x:HI} {s:Int} (hl:h.length≤100) (hi:∀ y∈h,It y) {Q0:Int→Prop} {Q1:Unit→Prop}:∀ (n k:Nat),n+k=h.length→(ag1 x (h.drop k)≠0→Q0 (ag1 x (h.drop k)))→(ag1 x (h.drop k)=0→Q1 ())→zbu_L1 h f s x Q0 Q1 (k:Int):=by
 intro n
 induction n with
 |zero=>
  intro k h1 q0 q1
  refine zbu_l1 ?_
  unfold zbu_w1
  rw [lenM_eq]
  rw [List.drop_of_length_le (by omega)] at q1
  exact Br.neg (by omega) (Lf.i (q1 rfl))
 |succ n ih=>
  intro k h1 q0 q1
  have hs:k<h.length:=by omega
  refine zbu_l1 ?_
  unfold zbu_w1
  rw [lenM_eq]
  rw [List.drop_eq_getElem_cons hs] at q0 q1
  have g:h[(k:Int).toNat]? = some h[k]:=by simp [hs]
  have iy:=hi h[k] (List.getElem_mem hs)
  have p1:=iy.pos; have p2:=iy.top
  simp only [ag1] at q0 q1
  refine Br.pos (by omega) ⟨h[k],Got.i (Br.i (fun c=>Num.n (by omega) ?_) (fun c => ?_)) (by omega) g⟩
  ·rw [if_neg c] at q0 q1
   exact ih (k+1) (by omega) q0 q1
  ·have c:=Decidable.not_not.1 c
   rw [if_pos c] at q0 q1
   unfold chk at q0 q1
   refine Br.i (fun c1=>Lf.i ?_) (fun c1 => ?_)
   ·rw [if_neg (fun e=>c1 (asset_eq.2 e))] at q0; rw [if_neg (show ¬ (7:Int)=0 by decide)] at q0; exact q0 (by decide)
   ·have c1:=asset_eq.1 (Decidable.not_not.1 c1)
    rw [if_pos c1] at q0 q1
    refine Br.i (fun c2=>Lf.i ?_) (fun c2 => ?_)
    ·rw [if_neg c2] at q0; rw [if_neg (show ¬ (7:Int)=0 by decide)] at q0; exact q0 (by decide)
    ·have c2:=Decidable.not_not.1 c2
     rw [if_pos c2] at q0 q1
     refine Br.i (fun c3=>Lf.i ?_) (fun c3=>Num.n (by omega) ?_)
     ·rw [if_neg c3] at q0; rw [if_neg (show ¬ (7:Int)=0 by decide)] at q0; exact q0 (by decide)
     ·have c3:=Decidable.not_not.1 c3
      rw [if_pos c3] at q0 q1
      refine Br.i (fun c4=>Lf.i ?_) (fun c4=>Num.n (by omega) ?_)
      ·rw [if_pos c4] at q0; rw [if_neg (show ¬ (9:Int)=0 by decide)] at q0; exact q0 (by decide)
      ·rw [if_neg c4,if_pos rfl] at q0 q1
       exact ih (k+1) (by omega) q0 q1
theorem agree_l {h f:List HI} (hl:h.length≤100) (fl:f.length≤100) (hi:∀ y∈h,It y) {Q0:Int→Prop} {Q1:Unit→Prop}:∀ (n k:Nat),n+k=f.length→(agreeS h (f.drop k)≠0→Q0 (agreeS h (f.drop k)))→(agreeS h (f.drop k)=0→Q1 ())→zbu_L0 h f Q0 Q1 (k:Int):=by
 intro n
 induction n with
 |zero=>
  intro k h1 q0 q1
  refine zbu_l0 ?_
  unfold zbu_w0
  rw [lenM_eq]
  rw [List.drop_of_length_le (by omega)] at q1
  exact Br.neg (by omega) (Lf.i (q1 rfl))
 |succ n ih=>
  intro k h1 q0 q1
  have hs:k<f.length:=by omega
  refine zbu_l0 ?_
  unfold zbu_w0
  rw [lenM_eq]
  rw [List.drop_eq_getElem_cons hs] at q0 q1
  have g:f[(k:Int).toNat]? = some f[k]:=by simp [hs]
  simp only [agreeS] at q0 q1
  refine Br.pos (by omega) ⟨f[k],Got.i (agree_l1 hl hi h.length 0 (by omega) (fun c=>Lf.i ?_) (fun c=>Num.n (by omega) ?_)) (by omega) g⟩
  ·rw [List.drop_zero] at c ⊢
   rw [if_neg c] at q0; exact q0 c
  ·rw [List.drop_zero] at c
   rw [if_pos c] at q0 q1
   exact ih (k+1) (by omega) q0 q1
theorem Agree_r {h f:List HI} (hl:h.length≤100) (fl:f.length≤100) (hi:∀ y∈h,It y):zbu_r h f (agreeS h f):=by
 refine zbu_of ?_
 unfold zbu_w
 exact agree_l hl fl hi f.length 0 (by omega) (fun c=>Rt.i rfl) (fun c=>Rt.i c.symm)
theorem ag1_none {x:HI}:∀ {h:List HI},(∀ y∈h,y.Lot.ISIN≠x.Lot.ISIN)→ag1 x h=0
 |[],_=>rfl
 |y::h,hh=>by
  simp only [ag1]
  rw [if_neg (fun e=>hh y (by simp) e.symm)]
  exact ag1_none fun z hz=>hh z (by simp [hz])
theorem ag1_at {x:HI} {h:List HI} (ha:h.Pairwise (fun a b=>a.Lot.ISIN≠b.Lot.ISIN)):(atH x.Lot.ISIN h = -1∧ag1 x h=0)∨(∃ A y B,h=A++y::B∧y.Lot.ISIN=x.Lot.ISIN∧atH x.Lot.ISIN h=(A.length:Nat)∧ag1 x h=chk x y):=by
 rcases atH_or x.Lot.ISIN h with⟨h1,h2⟩ | ⟨A,y,B,h1,h2,h3⟩
 ·exact .inl ⟨h1,ag1_none h2⟩
 ·refine .inr ⟨A,y,B,h1,h2,h3, ?_⟩
  have hB:∀ z∈B,z.Lot.ISIN≠x.Lot.ISIN:=fun z hz e=>by
   rw [h1] at ha
   have:=(List.pairwise_cons.1 (List.pairwise_append.1 ha).2.1).1 z hz
   exact this (by rw [h2,e])
  have hA:∀ z∈A,z.Lot.ISIN≠x.Lot.ISIN:=fun z hz e=>by
   rw [h1] at ha
   exact (List.pairwise_append.1 ha).2.2 z hz y (by simp) (by rw [e,h2])
  have go:∀ A:List HI,(∀ z∈A,z.Lot.ISIN≠x.Lot.ISIN)→ag1 x (A++y::B)=chk x y:=by
   intro A
   induction A with
   |nil=>
    intro _
    simp only [List.nil_append,ag1]
    rw [if_pos h2.symm]
    by_cases c:chk x y=0
    ·rw [if_pos c,ag1_none hB,c]
    ·rw [if_neg c]
   |cons z A ih=>
    intro hz
    simp only [List.cons_append,ag1]
    rw [if_neg (fun e=>hz z (by simp) e.symm)]
    exact ih fun w hw=>hz w (by simp [hw])
  rw [h1]; exact go A hA
theorem ragree_l {h f:List HI} (hl:h.length≤100) (fl:f.length≤100) (hi:∀ y∈h,It y) (fi:∀ y∈f,It y) (ha:h.Pairwise (fun a b=>a.Lot.ISIN≠b.Lot.ISIN)) {Q0:Int→Prop} {Q1:Unit→Prop}:∀ (n k:Nat),n+k=f.length→(agreeS h (f.drop k)≠0→Q0 (agreeS h (f.drop k)))→(agreeS h (f.drop k)=0→Q1 ())→zbm_L0 (h.map toR) (f.map toR) Q0 Q1 (k:Int):=by
 intro n
 induction n with
 |zero=>
  intro k h1 q0 q1
  refine zbm_l0 ?_
  unfold zbm_w0
  rw [lenM_eq,List.length_map]
  rw [List.drop_of_length_le (by omega)] at q1
  exact Br.neg (by omega) (Lf.i (q1 rfl))
 |succ n ih=>
  intro k h1 q0 q1
  have hs:k<f.length:=by omega
  refine zbm_l0 ?_
  unfold zbm_w0
  rw [lenM_eq,List.length_map]
  rw [List.drop_eq_getElem_cons hs] at q0 q1
  have g:(f.map toR)[(k:Int).toNat]? = some (toR f[k]):=by simp [hs]
  have z:(0:Int)≤(k:Int):=by omega
  have fx:=fi f[k] (List.getElem_mem hs)
  have f1:=fx.pos; have f2:=fx.top
  simp only [agreeS] at q0 q1
  refine Br.pos (by omega) ⟨toR f[k],Got.i ⟨_,RAt_r (by omega), ?_⟩ z g⟩
  rcases ag1_at (x:=f[k]) ha with⟨a1,a2⟩ | ⟨A,y,B,a0,a1,a2,a3⟩
  ·rw [if_pos a2] at q0 q1
   exact Br.pos (by show atH f[k].Lot.ISIN h<0; omega) (Num.n (by omega) (ih (k+1) (by omega) q0 q1))
  ·have iy:=hi y (by rw [a0]; simp)
   have p1:=iy.pos; have p2:=iy.top
   have zy:0≤atH f[k].Lot.ISIN h:=by omega
   have gy:(h.map toR)[(atH f[k].Lot.ISIN h).toNat]? = some (toR y):=by
    rw [a2,Int.toNat_natCast,List.getElem?_map]
    have:(A++y::B)[A.length]? = some y:=by simp
    rw [← a0] at this; rw [this]; rfl
   rw [a3] at q0 q1
   unfold chk at q0 q1
   refine Br.neg (by show ¬ atH f[k].Lot.ISIN h<0; omega) (Got.i ⟨toR y,Got.i (Br.i (fun c1=>Lf.i ?_) (fun c1 => ?_)) zy gy⟩ z g)
   ·have c1:¬ f[k].Asset=y.Asset:=fun e=>c1 (asset_eq.2 e)
    rw [if_neg c1] at q0; rw [if_neg (show ¬ (7:Int)=0 by decide)] at q0; exact q0 (by decide)
   ·have c1:f[k].Asset=y.Asset:=asset_eq.1 (Decidable.not_not.1 c1)
    rw [if_pos c1] at q0 q1
    refine Got.i (Got.i (Br.i (fun c2=>Lf.i ?_) (fun c2 => ?_)) zy gy) z g
    ·have c2:¬ f[k].Price=y.Price:=c2
     rw [if_neg c2] at q0; rw [if_neg (show ¬ (7:Int)=0 by decide)] at q0; exact q0 (by decide)
    ·have c2:f[k].Price=y.Price:=Decidable.not_not.1 c2
     rw [if_pos c2] at q0 q1
     refine Got.i (Got.i (Br.i (fun c3=>Lf.i ?_) (fun c3 => ?_)) zy gy) z g
     ·have c3:¬ f[k].Cut=y.Cut:=c3
      rw [if_neg c3] at q0; rw [if_neg (show ¬ (7:Int)=0 by decide)] at q0; exact q0 (by decide)
     ·have c3:f[k].Cut=y.Cut:=Decidable.not_not.1 c3
      rw [if_pos c3] at q0 q1
      have hb : -9223372036854775808≤f[k].Lot.Qty+y.Lot.Qty∧f[k].Lot.Qty+y.Lot.Qty≤9223372036854775807:=by omega
      refine Got.i (Got.i (Num.n hb (Br.i (fun c4=>Lf.i ?_) (fun c4=>Num.n (by omega) ?_))) zy gy) z g
      ·have c4:f[k].Lot.Qty+y.Lot.Qty>1125899906842624:=c4
       rw [if_pos (show 1125899906842624-y.Lot.Qty<f[k].Lot.Qty by omega)] at q0; rw [if_neg (show ¬ (9:Int)=0 by decide)] at q0; exact q0 (by decide)
      ·have c4:¬ f[k].Lot.Qty+y.Lot.Qty>1125899906842624:=c4
       rw [if_neg (show ¬ 1125899906842624-y.Lot.Qty<f[k].Lot.Qty by omega),if_pos rfl] at q0 q1
       exact ih (k+1) (by omega) q0 q1
theorem RAgree_r {h f:List HI} (hl:h.length≤100) (fl:f.length≤100) (hi:∀ y∈h,It y) (fi:∀ y∈f,It y) (ha:h.Pairwise (fun a b=>a.Lot.ISIN≠b.Lot.ISIN)):zbm_r (h.map toR) (f.map toR) (agreeS h f):=by
 refine zbm_of ?_
 unfold zbm_w
 exact ragree_l hl fl hi fi ha f.length 0 (by omega) (fun c=>Rt.i rfl) (fun c=>Rt.i c.symm)
theorem chk2_ok {x y:HI} (h:chk x y=0):y.Asset=x.Asset∧y.Price=x.Price∧y.Cut=x.Cut∧y.Lot.Qty+x.Lot.Qty≤1125899906842624:=by
 unfold chk at h
 split at h
 ·rename_i h1
  split at h
  ·rename_i h2
   split at h
   ·rename_i h3
    split at h
    ·cases h
    ·exact⟨h1.symm,h2.symm,h3.symm,by omega⟩
   ·cases h
  ·cases h
 ·cases h
theorem agree_ok {h:List HI} (ha:h.Pairwise (fun a b=>a.Lot.ISIN≠b.Lot.ISIN)):∀ (f:List HI),agreeS h f=0→∀ x∈f,∀ y∈h,y.Lot.ISIN=x.Lot.ISIN→chk x y=0
 |[],_,x,hx,_,_,_=>by cases hx
 |z::f,hz,x,hx,y,hy,he=>by
  simp only [agreeS] at hz
  split at hz
  ·rename_i c
   rcases List.mem_cons.1 hx with rfl | hx
   ·rcases ag1_at (x:=x) ha with⟨a1,_⟩ | ⟨A,y',B,a0,a1,_,a3⟩
    ·rcases atH_or x.Lot.ISIN h with⟨_,h2⟩ | ⟨A,y',B,_,_,h3⟩
     ·exact absurd he (h2 y hy)
     ·omega
    ·have:y=y':=by
      rw [a0] at hy ha
      obtain⟨p1,p2,p3⟩:=List.pairwise_append.1 ha
      rcases List.mem_append.1 hy with hy | hy
      ·exact absurd (by rw [he,a1]) (p3 y hy y' (by simp))
      ·rcases List.mem_cons.1 hy with rfl | hy
       ·rfl
       ·exact absurd (by rw [he,a1]) ((List.pairwise_cons.1 p2).1 y hy)
     rw [this, ← a3]; exact c
   ·exact agree_ok ha f hz x hx y hy he
  ·rename_i c; exact absurd hz c
def topS (b:zav)(have_ free:List RI)(need:Int):zel×Int:=
 if ¬ newOk b need then (⟨[],0,0⟩,1) else if wrongS have_≠0 then (⟨[],0,0⟩,wrongS have_) else if wrongS free≠0 then (⟨[],0,0⟩,wrongS free) else if agreeS (have_.map toH) (free.map toH)≠0 then (⟨[],0,0⟩,agreeS (have_.map toH) (free.map toH))
 else planS (fillF (keptF (newT b need,[]) (isort leE (have_.map toH))) (isort leE (free.map toH))).1 (fillF (keptF (newT b need,[]) (isort leE (have_.map toH))) (isort leE (free.map toH))).2
theorem wrong_map {l:List RI} (h:wrongS l=0):(∀ x∈l.map toH,It x)∧(l.map toH).Pairwise (fun x y=>x.Lot.ISIN≠y.Lot.ISIN):=by
 obtain⟨f1,f2⟩:=Fi_new h
 refine⟨fun x hx=>f1.it x ((isort_perm _).mem_iff.2 hx), ?_⟩
 exact ((isort_perm (l.map toH)).pairwise_iff (fun h e=>h.symm e)).1 f1.apart
theorem top_fi {b:zav} {hv fr:List RI} {need:Int} (h:newOk b need) (h1:wrongS hv=0) (h2:wrongS fr=0) (h3:agreeS (hv.map toH) (fr.map toH)=0):
  ∃ m',Al (keptR (newT b need,[]) (newR b need) (isort leE (hv.map toH))) (keptF (newT b need,[]) (isort leE (hv.map toH))).1 m'∧m'≤64∧(keptF (newT b need,[]) (isort leE (hv.map toH))).2.length≤64∧Fi (keptF (newT b need,[]) (isort leE (hv.map toH))).2 (isort leE (fr.map toH)):=by
 obtain⟨f1,f2⟩:=Fi_new h1
 obtain⟨g1,g2⟩:=Fi_new h2
 obtain⟨w1,w2⟩:=wrong_map h1
 obtain⟨v1,v2⟩:=wrong_map h2
 obtain⟨m',a,c,d,e⟩:=keptR_al (h:=hv.map toH) (isort leE (hv.map toH)) _ [] _ 0 (fun x hx=>⟨(isort_perm _).mem_iff.1 hx,f1.it x hx⟩) (fun y hy=>by cases hy) (Al_new h) (by rw [isort_len']; simp; omega)
 rw [isort_len',List.length_map] at c d
 simp only [List.length_nil] at d
 refine⟨m',a,by omega,by omega,g1.it,g1.apart,fun y hy => ?_,fun x hx y hy he => ?_⟩
 ·obtain⟨x,hx,q,q0,q1,rfl⟩:=e y hy
  have ix:=w1 x hx
  have:=ix.top
  exact⟨ix.good,q0,by show q≤_; omega⟩
 ·obtain⟨z,hz,q,q0,q1,rfl⟩:=e y hy
  have hx':=(isort_perm _).mem_iff.1 hx
  have ck:=chk2_ok (agree_ok w2 _ h3 x hx' z hz he)
  exact⟨ck.1,ck.2.1,ck.2.2.1,by show q+x.Lot.Qty≤_; omega⟩
theorem Top_r {b:zav} {hv fr:List RI} {need:Int}:zgo_r b (hv.map toH) (fr.map toH) need (topS b hv fr need):=by
 refine zgo_of ?_
 unfold zgo_w topS
 by_cases h:newOk b need
 ·rw [if_neg (fun k=>k h)]
  by_cases h1:wrongS hv=0
  ·rw [if_neg (fun k=>k h1)]
   obtain⟨w1,w2⟩:=wrong_map h1
   obtain⟨f1,f2⟩:=Fi_new h1
   refine .inr ⟨_,Kept_r1 h h1,Br.neg (fun k=>k rfl) ⟨_,Check_r,Br.i (fun c=>Rt.i (by rw [if_pos c])) (fun c => ?_)⟩⟩
   have c:=Decidable.not_not.1 c
   obtain⟨g1,g2⟩:=Fi_new c
   rw [if_neg (fun k=>k c)]
   refine⟨_,Agree_r (by simp; omega) (by simp; omega) w1,Br.i (fun c2=>Rt.i (by rw [if_pos c2])) (fun c2 => ?_)⟩
   have c2:=Decidable.not_not.1 c2
   rw [if_neg (fun k=>k c2)]
   obtain⟨m',a,m1,ol,fi⟩:=top_fi h h1 c c2
   obtain⟨m2,a1,a2,a3,a4⟩:=fillR_al _ _ _ _ m' fi a (by rw [isort_len']; simp; omega)
   rw [isort_len',List.length_map] at a3
   refine⟨_,FFill_r g2 fi a (by omega) (by omega),_,Plan_r a1.tok ?_,Rt.i rfl⟩
   omega
  ·rw [if_pos h1]
   exact .inl ⟨_,Kept_r0 (.inr ⟨h,h1,rfl⟩),Br.pos h1 (Rt.i rfl)⟩
 ·rw [if_pos h]
  exact .inl ⟨_,Kept_r0 (.inl ⟨h,rfl⟩),Br.pos (by decide) (Rt.i rfl)⟩
theorem RTop_r {b:zav} {hv fr:List RI} {need:Int}:zfc_r b hv fr need (toP (topS b hv fr need).1,(topS b hv fr need).2):=by
 refine zfc_of ?_
 unfold zfc_w topS
 by_cases h:newOk b need
 ·rw [if_neg (fun k=>k h)]
  refine⟨_,RNew_r h,Br.neg (fun k=>k rfl) ⟨_,Wrong_r,Br.i (fun c=>⟨_,Wrong_r,Rt.i (by rw [if_pos c]; rfl)⟩) (fun h1 => ?_)⟩⟩
  have h1:=Decidable.not_not.1 h1
  rw [if_neg (fun k=>k h1)]
  obtain⟨w1,w2⟩:=wrong_map h1
  obtain⟨f1,f2⟩:=Fi_new h1
  refine⟨_,Wrong_r,Br.i (fun c=>⟨_,Wrong_r,Rt.i (by rw [if_pos c]; rfl)⟩) (fun c => ?_)⟩
  have c:=Decidable.not_not.1 c
  rw [if_neg (fun k=>k c)]
  obtain⟨v1,v2⟩:=wrong_map c
  obtain⟨g1,g2⟩:=Fi_new c
  have A:=RAgree_r (h:=hv.map toH) (f:=fr.map toH) (by simp; omega) (by simp; omega) w1 v1 w2
  rw [toR_toH,toR_toH] at A
  refine⟨_,A,Br.i (fun c2=>⟨_,A,Rt.i (by rw [if_pos c2]; rfl)⟩) (fun c2 => ?_)⟩
  have c2:=Decidable.not_not.1 c2
  rw [if_neg (fun k=>k c2)]
  obtain⟨m',a,m1,ol,fi⟩:=top_fi h h1 c c2
  obtain⟨m2,a1,a2,a3,a4⟩:=fillR_al _ _ _ _ m' fi a (by rw [isort_len']; simp; omega)
  rw [isort_len',List.length_map] at a3
  refine⟨_,RKept_r f2 f1.it (Al_new h) (by omega),_,RFilled_r g2 fi a (by omega) (by omega),_,RPlan_r a1 (by omega) ?_,Rt.i rfl⟩
  omega
 ·rw [if_pos h]
  exact⟨_,RNew_r0 h,Br.pos (by decide) (Rt.i rfl)⟩
end Go.Proofs.YtjlkmdmaimednaaGreat.Pure
namespace Go.Proofs.YtjlkmdmaimednaaGreat.Pure
open Go Go.Ab Go.Stable Go.Proofs.YtjlkmdmaimednaaGreat.R
set_option linter.unusedVariables false
set_option linter.unusedSimpArgs false
def spQ (x:HI)(o:Int):Int:=least (max 0 (covH x-o)) x.Price x.Cut
def spN (x:HI)(o:Int):Int:=o-covH x+covH (setQ x (spQ x o))
def spF:List HI→Int→List zab
 |[],_=>[]
 |x::r,o=>(if spQ x o<x.Lot.Qty then [(⟨x.Lot.ISIN,x.Lot.Qty-spQ x o⟩:zab)] else [])++spF r (spN x o)
theorem cv_mono {q r p c:Int} (h:goodS p c=true) (hq:q≤r):cv q p c≤cv r p c:=
 (least_le h).1 (Int.le_trans ((least_le h).2 (Int.le_refl _)) hq)
theorem cov_self {x:HI} (hx:It x):covH x=cv x.Lot.Qty x.Price x.Cut:=by
 have h1:=hx.pos
 exact cov_q (x:=x) (q:=x.Lot.Qty) hx.good ⟨by omega,hx.top⟩
structure Sp (x:HI) (o:Int):Prop where
 q0:0≤spQ x o
 q1:spQ x o≤x.Lot.Qty
 cov:covH (setQ x (spQ x o))=cv (spQ x o) x.Price x.Cut
 n0:0≤spN x o
 n1:spN x o≤o
 small:1≤spQ x o→cv (spQ x o-1) x.Price x.Cut<covH x-o
 ls:leastS (max 0 (covH x-o)) x.Price x.Cut=(spQ x o,true)
 full:¬ spQ x o<x.Lot.Qty→spN x o=o
theorem sp_ok {x:HI} {o:Int} (hx:It x) (ho:0≤o):Sp x o:=by
 have h1:=hx.pos
 have h2:=hx.top
 have hc:=cov_self hx
 have hn:=covH_nn x
 have m0:0≤max 0 (covH x-o):=Int.le_max_left _ _
 have q0:0≤spQ x o:=least_nn hx.good m0
 have q1:spQ x o≤x.Lot.Qty:=(least_le hx.good).2 (by rw [← hc]; omega)
 have hcov:covH (setQ x (spQ x o))=cv (spQ x o) x.Price x.Cut:=cov_q hx.good ⟨q0,by omega⟩
 have hge:max 0 (covH x-o)≤cv (spQ x o) x.Price x.Cut:=(least_le hx.good).1 (Int.le_refl _)
 have hle:cv (spQ x o) x.Price x.Cut≤covH x:=by rw [hc]; exact cv_mono hx.good q1
 refine⟨q0,q1,hcov, ?_, ?_,fun hq => ?_, ?_,fun hf => ?_⟩
 ·unfold spN; rw [hcov]; omega
 ·unfold spN; rw [hcov]; omega
 ·have hlt:¬ max 0 (covH x-o)≤cv (spQ x o-1) x.Price x.Cut:=fun k=>by
   have:=(least_le hx.good).2 k
   have e:least (max 0 (covH x-o)) x.Price x.Cut=spQ x o:=rfl
   rw [e] at this
   omega
  have hb:=(cv_bd (q:=spQ x o-1) hx.good ⟨by omega,by omega⟩).1
  omega
 ·unfold leastS
  have e:least (max 0 (covH x-o)) x.Price x.Cut=spQ x o:=rfl
  rw [if_neg (by rw [hx.good]; decide),if_neg (by omega),e,if_neg (by omega)]
 ·have e:spQ x o=x.Lot.Qty:=by omega
  unfold spN; rw [hcov,e, ← hc]; omega
theorem spare_l {R:List HI} (hR:∀ x∈R,It x) (hl:R.length≤1000) {Q:List zab→Prop}:∀ (k:Nat) (o:Int) (acc:List zab),k≤R.length→acc.length+k≤1000→0≤o→o≤9223372036854775807→
  Q (acc++spF (R.take k).reverse o)→zcm_Lr0 R Q Q o acc k:=by
 intro k
 induction k with
 |zero=>
  intro o acc hk ha h0 h1 q
  refine zcm_lr00 ?_
  exact Lf.i (by simpa [spF] using q)
 |succ k ih=>
  intro o acc hk ha h0 h1 q
  have hi:k<R.length:=by omega
  have hx:=hR R[k] (List.getElem_mem hi)
  have sp:=sp_ok hx h0
  have e:(R.take (k+1)).reverse=R[k]::(R.take k).reverse:=by
   rw [List.take_add_one,List.getElem?_eq_getElem hi]; simp
  rw [e] at q
  simp only [spF] at q
  have cb:=cv_bd (q:=R[k].Lot.Qty) hx.good ⟨by have:=hx.pos; omega,hx.top⟩
  rw [← cov_self hx] at cb
  have sb:=cv_bd (q:=spQ R[k] o) hx.good ⟨sp.q0,by have:=sp.q1; have:=hx.top; omega⟩
  rw [← sp.cov] at sb
  have hq0:=sp.q0
  have hq1:=sp.q1
  have hn0:=sp.n0
  have hn1:=sp.n1
  have hp:=hx.pos
  have ht:=hx.top
  have eN:spN R[k] o=o-covH R[k]+covH (setQ R[k] (spQ R[k] o)):=rfl
  have hL:=Least_r (need:=max 0 (covH R[k]-o)) (p:=R[k].Price) (c:=R[k].Cut)
  rw [sp.ls] at hL
  have hC:=Cover_r (q:=spQ R[k] o) (p:=R[k].Price) (c:=R[k].Cut)
  have eC:(coverS (spQ R[k] o) R[k].Price R[k].Cut).1=covH (setQ R[k] (spQ R[k] o)):=rfl
  refine zcm_lr01 ⟨R[k],List.getElem?_eq_getElem hi,Br.neg (by omega) ⟨_,HCover_r _,Num.n (by omega) ⟨_,hL,_,hC,Br.i (fun c => ?_) (fun c => ?_)⟩⟩⟩
  ·have c:spQ R[k] o<R[k].Lot.Qty:=c
   rw [if_pos c] at q
   rw [eC]
   refine Num.n (by show -9223372036854775808≤R[k].Lot.Qty-spQ R[k] o∧_; omega) (App2.i (app24 (by simp; omega)) (Num.n (by omega) (Num.n (by omega) ?_)))
   have e2:o-(covH R[k]-covH (setQ R[k] (spQ R[k] o)))=spN R[k] o:=by rw [eN]; omega
   rw [e2]
   exact ih _ _ (by omega) (by simp; omega) hn0 (by omega) (by rw [List.append_assoc]; exact q)
  ·have c:¬ spQ R[k] o<R[k].Lot.Qty:=c
   rw [if_neg c,sp.full c] at q
   exact ih _ _ (by omega) (by omega) h0 h1 q
theorem spare_neg {R:List HI} {Q:List zab→Prop} {o:Int} (ho:o<0) (q:Q []):∀ k:Nat,k≤R.length→zcm_Lr0 R Q Q o [] k
 |0,_=>zcm_lr00 (Lf.i q)
 |k+1,hk=>zcm_lr01 ⟨R[k],List.getElem?_eq_getElem (by omega),Br.pos (by omega) (Lf.i q)⟩
theorem spF_len:∀ (r:List HI) (o:Int),(spF r o).length≤r.length
 |[],_=>by simp [spF]
 |x::r,o=>by
  have:=spF_len r (spN x o)
  simp only [spF,List.length_append,List.length_cons]
  split <;> simp <;> omega
def slackS (l:List RI)(need:Int):Int×Int:=marS (sumW pT (l.map toH)) need
def spareL (l:List RI)(o:Int):List zab:=if o<0 then [] else spF (isort leE (l.map toH)).reverse o
def spareS (l:List RI)(need:Int):List zab×Int:=
 if wrongS l≠0 then ([],wrongS l) else if (slackS l need).2≠0 then ([],(slackS l need).2) else mergeG [] (spareL l (slackS l need).1)
theorem mem_rank {l:List RI} {x:HI}:x∈isort leE (l.map toH)↔x∈l.map toH:=(isort_perm (l.map toH)).mem_iff
theorem Spare_r {l:List RI} {need:Int} (hN:InK .i64 need):zcm_r (l.map toH) need (spareS l need):=by
 refine zcm_of ?_
 unfold zcm_w spareS
 refine⟨_,Check_r,Br.i (fun c=>Rt.i (by rw [if_pos c])) (fun c => ?_)⟩
 have c:=Decidable.not_not.1 c
 have g:=good_of c
 rw [if_neg (fun k=>k c)]
 have hlen:(l.map toH).length≤64:=by rw [List.length_map]; exact g.len
 have hs:=g.sum
 refine⟨_,Margin_r (by omega) (by omega) hN,Br.i (fun c2=>Rt.i (by rw [if_pos (show (slackS l need).2≠0 from c2)]; rfl)) (fun c2 => ?_)⟩
 have c2:=Decidable.not_not.1 c2
 have e2:(slackS l need).2=0:=c2
 rw [if_neg (fun k=>k e2)]
 have hl:(isort leE (l.map toH)).length≤64:=by rw [isort_len']; exact hlen
 refine⟨_,Rank_r (by omega),Backward_ok _,zcm_rr0 Back_ok ?_⟩
 have hov:(slackS l need).1≤9223372036854775807:=by
  unfold slackS marS; split
  ·exact (by decide:(0:Int)≤9223372036854775807)
  ·rename_i k; show sumW pT (l.map toH)-need≤_; omega
 by_cases k:(slackS l need).1<0
 ·refine spare_neg k ⟨_,Merge_r (by simp),Rt.i ?_⟩ _ (Nat.le_refl _)
  unfold spareL; rw [if_pos k]
 ·refine spare_l (fun x hx=>g.it x (mem_rank.1 hx)) (by omega) _ _ [] (Nat.le_refl _) (by simp; omega) (by show 0≤(slackS l need).1; omega) hov ?_
  refine⟨_,Merge_r ?_,Rt.i ?_⟩
  ·rw [List.take_length,List.nil_append]
   have:=spF_len (isort leE (l.map toH)).reverse (slackS l need).1
   rw [List.length_reverse] at this
   show (spF (isort leE (l.map toH)).reverse (slackS l need).1).length≤_
   omega
  ·unfold spareL; rw [if_neg k,List.take_length,List.nil_append]; rfl
theorem R1Minus_r {a b:Int} (ha:0≤a∧a≤9223372036854775807) (hb:InK .i64 b):zdx_r a b (marS a b):=by
 have hb' : -9223372036854775808≤b∧b≤9223372036854775807:=hb
 refine zdx_of ?_
 unfold zdx_w marS
 refine Br.i (fun c=>Num.n (by omega) (Br.i (fun c2=>Rt.i (by rw [if_pos (by omega)])) (fun c2=>Br.neg (by omega) (Num.n (by omega) (Rt.i (by rw [if_neg (by omega)])))))) (fun c=>Br.i (fun c2=>Num.n (by omega) (Br.neg (by omega) (Num.n (by omega) (Rt.i (by rw [if_neg (by omega)]))))) (fun c2=>Num.n (by omega) (Rt.i (by rw [if_neg (by omega)]))))
theorem rspare_l {R:List HI} (hR:∀ x∈R,It x) (hl:R.length≤1000) {Q:List zab→Prop}:∀ (k:Nat) (o:Int) (acc:List zab),k≤R.length→acc.length+k≤1000→0≤o→o≤9223372036854775807→
  Q (acc++spF (R.take k).reverse o)→zby_L0 (R.map toR) Q o ((k:Int)-1) acc:=by
 intro k
 induction k with
 |zero=>
  intro o acc hk ha h0 h1 q
  refine zby_l0 ?_
  unfold zby_w0
  exact Br.neg (by omega) (Lf.i (by simpa [spF] using q))
 |succ k ih=>
  intro o acc hk ha h0 h1 q
  have hi:k<R.length:=by omega
  have hx:=hR R[k] (List.getElem_mem hi)
  have sp:=sp_ok hx h0
  have e:(R.take (k+1)).reverse=R[k]::(R.take k).reverse:=by
   rw [List.take_add_one,List.getElem?_eq_getElem hi]; simp
  rw [e] at q
  simp only [spF] at q
  have cb:=cv_bd (q:=R[k].Lot.Qty) hx.good ⟨by have:=hx.pos; omega,hx.top⟩
  rw [← cov_self hx] at cb
  have sb:=cv_bd (q:=spQ R[k] o) hx.good ⟨sp.q0,by have:=sp.q1; have:=hx.top; omega⟩
  rw [← sp.cov] at sb
  have hq0:=sp.q0
  have hq1:=sp.q1
  have hn0:=sp.n0
  have hn1:=sp.n1
  have hp:=hx.pos
  have ht:=hx.top
  have eN:spN R[k] o=o-covH R[k]+covH (setQ R[k] (spQ R[k] o)):=rfl
  have hL:=RLeast_r (need:=max 0 (covH R[k]-o)) (p:=R[k].Price) (c:=R[k].Cut) (by omega)
  rw [sp.ls] at hL
  have hC:=RCover_r (q:=spQ R[k] o) (p:=R[k].Price) (c:=R[k].Cut)
  have eC:(coverS (spQ R[k] o) R[k].Price R[k].Cut).1=covH (setQ R[k] (spQ R[k] o)):=rfl
  have ei:(((k+1:Nat):Int)-1)-1=(k:Int)-1:=by omega
  have g:(R.map toR)[((((k+1:Nat):Int)-1)).toNat]? = some (toR R[k]):=by
   have:(((k+1:Nat):Int)-1).toNat=k:=by omega
   rw [this]; simp [hi]
  have z:(0:Int)≤((k+1:Nat):Int)-1:=by omega
  have e2:o-covH R[k]+covH (setQ R[k] (spQ R[k] o))=spN R[k] o:=rfl
  refine zby_l0 ?_
  unfold zby_w0
  refine Br.pos (by omega) (Br.pos (by omega) ⟨toR R[k],Got.i ⟨_,RHCovers_r R[k], ?_⟩ z g⟩)
  refine Br.i (fun c0 => ?_) (fun c0 => ?_)
  ·have em:max 0 (covH R[k]-o)=covH R[k]-o:=by omega
   rw [em] at hL
   refine⟨_,RHCovers_r R[k],Num.n (by omega) ⟨_,hL,_,hC,Br.i (fun c => ?_) (fun c => ?_)⟩⟩
   ·have c:spQ R[k] o<R[k].Lot.Qty:=c
    rw [if_pos c] at q
    refine Num.n (by show -9223372036854775808≤R[k].Lot.Qty-spQ R[k] o∧R[k].Lot.Qty-spQ R[k] o≤_; omega) (App2.i (app24 (by simp; omega)) ⟨_,RHCovers_r R[k],Num.n (by omega) (Num.n (by rw [eC]; omega) (Num.n (by omega) ?_))⟩)
    rw [eC,e2,ei]
    exact ih _ _ (by omega) (by simp; omega) hn0 (by omega) (by rw [List.append_assoc]; exact q)
   ·have c:¬ spQ R[k] o<R[k].Lot.Qty:=c
    rw [if_neg c,sp.full c] at q
    refine Num.n (by omega) ?_
    rw [ei]
    exact ih _ _ (by omega) (by omega) h0 h1 q
  ·have em:max 0 (covH R[k]-o)=0:=by omega
   rw [em] at hL
   refine⟨_,hL,_,hC,Br.i (fun c => ?_) (fun c => ?_)⟩
   ·have c:spQ R[k] o<R[k].Lot.Qty:=c
    rw [if_pos c] at q
    refine Num.n (by show -9223372036854775808≤R[k].Lot.Qty-spQ R[k] o∧R[k].Lot.Qty-spQ R[k] o≤_; omega) (App2.i (app24 (by simp; omega)) ⟨_,RHCovers_r R[k],Num.n (by omega) (Num.n (by rw [eC]; omega) (Num.n (by omega) ?_))⟩)
    rw [eC,e2,ei]
    exact ih _ _ (by omega) (by simp; omega) hn0 (by omega) (by rw [List.append_assoc]; exact q)
   ·have c:¬ spQ R[k] o<R[k].Lot.Qty:=c
    rw [if_neg c,sp.full c] at q
    refine Num.n (by omega) ?_
    rw [ei]
    exact ih _ _ (by omega) (by omega) h0 h1 q
theorem rspare_neg {R:List RI} {Q:List zab→Prop} {o i:Int} (ho:o<0) (q:Q []):zby_L0 R Q o i []:=by
 refine zby_l0 ?_
 unfold zby_w0
 exact Br.i (fun _=>Br.neg (by omega) (Lf.i q)) (fun _=>Lf.i q)
theorem RSpare_r {l:List RI} {need:Int} (hN:InK .i64 need):zby_r l need (spareS l need):=by
 refine zby_of ?_
 unfold zby_w spareS
 refine⟨_,Wrong_r,Br.i (fun c=>⟨_,Wrong_r,Rt.i (by rw [if_pos c])⟩) (fun c => ?_)⟩
 have c:=Decidable.not_not.1 c
 have g:=good_of c
 rw [if_neg (fun k=>k c)]
 have hlen:(l.map toH).length≤64:=by rw [List.length_map]; exact g.len
 have hs:=g.sum
 have tt:=Total15_r (l:=l.map toH) (by omega) (by omega)
 rw [toR_toH] at tt
 refine⟨_,tt,Br.neg (fun k=>k rfl) ⟨_,R1Minus_r ⟨sumW_nn _ _,by show sumW pT (l.map toH)≤_; omega⟩ hN,Br.i (fun c2=>Rt.i (by rw [if_pos (show (slackS l need).2≠0 from c2)]; rfl)) (fun c2 => ?_)⟩⟩
 have c2:=Decidable.not_not.1 c2
 have e2:(slackS l need).2=0:=c2
 rw [if_neg (fun k=>k e2)]
 have hl:(isort leE (l.map toH)).length≤64:=by rw [isort_len']; exact hlen
 refine⟨_,RRank_r (by have:=g.len; omega), ?_⟩
 rw [lenM_eq,List.length_map]
 refine Num.n (by omega) ?_
 have hov:(slackS l need).1≤9223372036854775807:=by
  unfold slackS marS; split
  ·exact (by decide:(0:Int)≤9223372036854775807)
  ·rename_i k; show sumW pT (l.map toH)-need≤_; omega
 by_cases k:(slackS l need).1<0
 ·refine rspare_neg k ⟨_,RMerge_r (by simp),Rt.i ?_⟩
  unfold spareL; rw [if_pos k]
 ·refine rspare_l (fun x hx=>g.it x (mem_rank.1 hx)) (by omega) _ _ [] (Nat.le_refl _) (by simp; omega) (by show 0≤(slackS l need).1; omega) hov ?_
  refine⟨_,RMerge_r ?_,Rt.i ?_⟩
  ·rw [List.take_length,List.nil_append]
   have:=spF_len (isort leE (l.map toH)).reverse (slackS l need).1
   rw [List.length_reverse] at this
   show (spF (isort leE (l.map toH)).reverse (slackS l need).1).length≤_
   omega
  ·unfold spareL; rw [if_neg k,List.take_length,List.nil_append]; rfl
end Go.Proofs.YtjlkmdmaimednaaGreat.Pure
