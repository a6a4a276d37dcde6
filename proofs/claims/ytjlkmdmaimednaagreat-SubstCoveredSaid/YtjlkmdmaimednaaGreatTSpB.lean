/- Texts put together. -/
import Derived.Test.YtjlkmdmaimednaaGreatTLotB
import Derived.Test.YtjlkmdmaimednaaGreatTRankR
import Derived.Test.YtjlkmdmaimednaaGreatRC
import Derived.Test.YtjlkmdmaimednaaGreatAbY
import Derived.Test.YtjlkmdmaimednaaGreatTKeys
import Derived.Test.YtjlkmdmaimednaaGreatTBack
set_option linter.unusedVariables false
set_option linter.unusedSimpArgs false
namespace Go.Proofs.YtjlkmdmaimednaaGreat.Pure
open Go Go.Ab Go.Stable Go.Proofs.YtjlkmdmaimednaaGreat.R
instance decMem (k:ByteArray) (l:List ByteArray):Decidable (k∈l):=decidable_of_iff ((l.any fun y=>decide (y=k))=true) (by simp)
def wrongL:List ByteArray→List RI→Int
 |_,[]=>0
 |seen,x::l=>if (coverS x.Lot.Qty x.Price x.Cut).2≠0∨x.Lot.Qty=0 then 1 else if 1125899906842624<covC x then 9 else if x.Asset.ISIN∈seen∨x.Asset.ISIN≠x.Lot.ISIN then 7 else wrongL (seen++[x.Asset.ISIN]) l
def wrongS (l:List RI):Int:=if 64<l.length then 2 else wrongL [] l
theorem check_l {l:List RI}{Q0:Int→Prop}{Q1:Unit→Prop}(hl:l.length≤64):∀(n i:Nat)(m:GM ByteArray Bool)(seen:List ByteArray),n+i=l.length→(∀k,m.getD k false=decide (k∈seen))→
  (wrongL seen (l.drop i)≠0→Q0 (wrongL seen (l.drop i)))→(wrongL seen (l.drop i)=0→Q1 ())→zcq_L0 (l.map toH) Q0 Q1 (i:Int) m:=by
 intro n
 induction n with
 |zero=>
  intro i m seen h hm q0 q1
  refine zcq_l0 ?_
  unfold zcq_w0
  rw[Qab,List.length_map]
  rw[List.drop_of_length_le (by omega)] at q1
  exact Br.neg (by omega) (Lf.i (q1 rfl))
 |succ n ih=>
  intro i m seen h hm q0 q1
  have hs:i<l.length:=by omega
  refine zcq_l0 ?_
  unfold zcq_w0
  rw[Qab,List.length_map]
  rw[List.drop_eq_getElem_cons hs] at q0 q1
  have g:(l.map toH)[(i:Int).toNat]? = some (toH l[i]):=by simp[hs]
  simp only[wrongL] at q0 q1
  refine Br.pos (by omega) ⟨toH l[i],Got.i ⟨_,Qd5,Br.i (fun c=>Lf.i ?_) (fun c=>Br.i (fun c1=>Lf.i ?_) (fun c1=>⟨_,Qgh l[i],Br.i (fun c2=>Lf.i ?_) (fun c2=>⟨_,_,Look.i ?_⟩)⟩))⟩ (by omega) g⟩
  ·rw[if_pos (.inl c)] at q0;exact q0 (by decide)
  ·rw[if_pos (.inr c1)] at q0;exact q0 (by decide)
  ·rw[if_neg (fun e=>e.elim c c1),if_pos (by omega)] at q0;exact q0 (by decide)
  ·rw[if_neg (fun e=>e.elim c c1),if_neg (by omega)] at q0 q1
   show Br (m.getD l[i].Asset.ISIN false) _ _
   rw[hm]
   refine Br.i (fun c3=>Lf.i ?_) (fun c3=>Br.i (fun c4=>Lf.i ?_) (fun c4=>⟨_,Put.i (Num.n (by omega) ?_)⟩))
   ·rw[if_pos (.inl c3)] at q0;exact q0 (by decide)
   ·rw[if_pos (.inr c4)] at q0;exact q0 (by decide)
   ·have e:¬ (l[i].Asset.ISIN∈seen∨l[i].Asset.ISIN≠l[i].Lot.ISIN):=fun e=>e.elim c3 c4
    rw[if_neg e] at q0 q1
    refine ih (i+1) _ (seen++[l[i].Asset.ISIN]) (by omega) (fun k => ?_) q0 q1
    rw[Qba]
    by_cases ek:k=l[i].Asset.ISIN
    ·rw[if_pos (show k=(toH l[i]).Asset.ISIN from ek),decide_eq_true (by rw[ek];simp)]
    ·rw[if_neg (show ¬ k=(toH l[i]).Asset.ISIN from ek),hm]
     exact decide_eq_decide.2 (by simp[ek])
theorem Check_r {l:List RI}:zcq_r (l.map toH) (wrongS l):=by
 refine zcq_of ?_
 unfold zcq_w wrongS
 rw[Qab,List.length_map]
 refine Br.i (fun c=>Rt.i (by rw[if_pos (by omega)])) (fun c => ?_)
 exact check_l (by omega) l.length 0 GM.nil [] (by omega) (fun k=>rfl) (fun h=>Rt.i (by rw[if_neg (by omega)];rfl)) (fun h=>Rt.i (by rw[if_neg (by omega)];exact h.symm))
theorem rwrong_l1 {l:List RI}{i:Nat}(hi:i<l.length) (hl:l.length≤64){Q0 Q1:Unit→Prop}:∀(n k:Nat),n+k=i→(l[i].Asset.ISIN∈((l.take i).drop k).map (·.Asset.ISIN)→Q0 ())→(l[i].Asset.ISIN∉((l.take i).drop k).map (·.Asset.ISIN)→Q1 ())→zax_L1 l i Q0 Q1 (k:Int):=by
 intro n
 induction n with
 |zero=>
  intro k h q0 q1
  refine zax_l1 ?_
  unfold zax_w1
  exact Br.neg (by omega) (Lf.i (q1 (by rw[List.drop_of_length_le (by simp;omega)];simp)))
 |succ n ih=>
  intro k h q0 q1
  refine zax_l1 ?_
  unfold zax_w1
  have hk:k<l.length:=by omega
  have g:l[(k:Int).toNat]? = some l[k]:=by simp[hk]
  have g2:l[(i:Int).toNat]? = some l[i]:=by simp[hi]
  have hk2:k<(l.take i).length:=by simp;omega
  rw[List.drop_eq_getElem_cons hk2,List.map_cons,List.getElem_take] at q0 q1
  refine Br.pos (by omega) ⟨l[k],Got.i ⟨l[i],Got.i (Br.i (fun c=>Lf.i (q0 (by rw[c];simp))) (fun c=>Num.n (by omega) (ih (k+1) (by omega) (fun hm=>q0 (List.mem_cons_of_mem _ hm)) (fun hm=>q1 ?_)))) (by omega) g2⟩ (by omega) g⟩
  intro hx
  rcases List.mem_cons.1 hx with e|e
  ·exact c e.symm
  ·exact hm e
theorem rwrong_l {l:List RI}{Q0:Int→Prop}{Q1:Unit→Prop}(hl:l.length≤64):∀(n i:Nat),n+i=l.length→
  (wrongL ((l.take i).map (·.Asset.ISIN)) (l.drop i)≠0→Q0 (wrongL ((l.take i).map (·.Asset.ISIN)) (l.drop i)))→(wrongL ((l.take i).map (·.Asset.ISIN)) (l.drop i)=0→Q1 ())→zax_L0 l Q0 Q1 (i:Int):=by
 intro n
 induction n with
 |zero=>
  intro i h q0 q1
  refine zax_l0 ?_
  unfold zax_w0
  rw[Qab]
  rw[List.drop_of_length_le (by omega)] at q1
  exact Br.neg (by omega) (Lf.i (q1 rfl))
 |succ n ih=>
  intro i h q0 q1
  have hs:i<l.length:=by omega
  refine zax_l0 ?_
  unfold zax_w0
  rw[Qab]
  rw[List.drop_eq_getElem_cons hs] at q0 q1
  have g:l[(i:Int).toNat]? = some l[i]:=by simp[hs]
  have z:(0:Int)≤(i:Int):=by omega
  simp only[wrongL] at q0 q1
  refine Br.pos (by omega) ⟨l[i],Got.i (Got.i (Got.i ⟨_,RCover_r,Br.i (fun c=>Lf.i ?_) (fun c=>Got.i (Br.i (fun c1=>Lf.i ?_) (fun c1=>Br.i (fun c2=>Lf.i ?_) (fun c2=>Got.i (Got.i (Br.i (fun c3=>Lf.i ?_) (fun c3 => ?_)) z g) z g))) z g)⟩ z g) z g) z g⟩
  ·rw[if_pos (.inl c)] at q0;exact q0 (by decide)
  ·rw[if_pos (.inr c1)] at q0;exact q0 (by decide)
  ·rw[if_neg (fun e=>e.elim c c1),if_pos (by unfold covC;omega)] at q0;exact q0 (by decide)
  ·rw[if_neg (fun e=>e.elim c c1),if_neg (by unfold covC;omega),if_pos (.inr c3)] at q0;exact q0 (by decide)
  ·have c3:=Decidable.not_not.1 c3
   rw[if_neg (fun e=>e.elim c c1),if_neg (by unfold covC;omega)] at q0 q1
   refine rwrong_l1 hs hl i 0 (by omega) (fun hm=>Lf.i ?_) (fun hm=>Num.n (by omega) (ih (i+1) (by omega) (fun hx => ?_) (fun hx => ?_)))
   ·rw[List.drop_zero] at hm
    rw[if_pos (.inl hm)] at q0;exact q0 (by decide)
   ·rw[List.drop_zero] at hm
    have e:¬ (l[i].Asset.ISIN∈(l.take i).map (·.Asset.ISIN)∨l[i].Asset.ISIN≠l[i].Lot.ISIN):=fun e=>e.elim hm (fun k=>k c3)
    rw[if_neg e] at q0
    rw[List.take_succ_eq_append_getElem hs,List.map_append] at hx ⊢
    exact q0 hx
   ·rw[List.drop_zero] at hm
    have e:¬ (l[i].Asset.ISIN∈(l.take i).map (·.Asset.ISIN)∨l[i].Asset.ISIN≠l[i].Lot.ISIN):=fun e=>e.elim hm (fun k=>k c3)
    rw[if_neg e] at q1
    rw[List.take_succ_eq_append_getElem hs,List.map_append] at hx
    exact q1 hx
theorem Wrong_r {l:List RI}:zax_r l (wrongS l):=by
 refine zax_of ?_
 unfold zax_w wrongS
 rw[Qab]
 refine Br.i (fun c=>Rt.i (by rw[if_pos (by omega)])) (fun c => ?_)
 exact rwrong_l (by omega) l.length 0 (by omega) (fun h=>Rt.i (by rw[if_neg (by omega)];rfl)) (fun h=>Rt.i (by rw[if_neg (by omega)];exact h.symm))
structure It (x:HI):Prop where
 good:goodS x.Price x.Cut=true
 pos:1≤x.Lot.Qty
 top:x.Lot.Qty≤1125899906842624
theorem it_of {x:RI}(h:¬ ((coverS x.Lot.Qty x.Price x.Cut).2≠0∨x.Lot.Qty=0)):It (toH x):=by
 have h1:(coverS x.Lot.Qty x.Price x.Cut).2=0:=Decidable.byContradiction fun k=>h (.inl k)
 have h2:x.Lot.Qty≠0:=fun k=>h (.inr k)
 unfold coverS at h1
 split at h1
 ·cases h1
 ·rename_i hg
  split at h1
  ·rename_i hw;exact absurd h1 hw
  ·rename_i hw
   have hw:=Decidable.not_not.1 hw
   unfold worthS at hw
   refine⟨by simpa[toH] using hg,?_,?_⟩
   ·show 1≤x.Lot.Qty
    by_cases k:x.Lot.Qty<0
    ·rw[if_pos k] at hw;cases hw
    ·omega
   ·show x.Lot.Qty≤1125899906842624
    by_cases k:x.Lot.Qty<0
    ·omega
    ·rw[if_neg k] at hw
     by_cases k2:1125899906842624<x.Lot.Qty
     ·rw[if_pos k2] at hw;cases hw
     ·omega
theorem Qgl:∀(l:List RI)(seen:List ByteArray),wrongL seen l=0→(∀x∈l,It (toH x)∧covC x≤1125899906842624∧x.Asset.ISIN=x.Lot.ISIN∧x.Lot.ISIN∉seen)∧l.Pairwise (fun x y=>x.Lot.ISIN≠y.Lot.ISIN)
 |[],seen,_=>⟨by simp,List.Pairwise.nil⟩
 |x::l,seen,h=>by
  simp only[wrongL] at h
  split at h
  ·cases h
  ·rename_i h1
   split at h
   ·cases h
   ·rename_i h2
    split at h
    ·cases h
    ·rename_i h3
     have e:x.Asset.ISIN=x.Lot.ISIN:=Decidable.byContradiction fun k=>h3 (.inr k)
     have ns:x.Asset.ISIN∉seen:=fun k=>h3 (.inl k)
     obtain⟨i1,i2⟩:=Qgl l _ h
     refine⟨fun y hy => ?_,List.pairwise_cons.2 ⟨fun y hy k => ?_,i2⟩⟩
     ·rcases List.mem_cons.1 hy with rfl|hy
      ·exact⟨it_of h1,by omega,e,by rw[←e];exact ns⟩
      ·obtain⟨a,b,c,d⟩:=i1 y hy
       exact⟨a,b,c,fun k=>d (by simp[k])⟩
     ·have:=(i1 y hy).2.2.2
      exact this (by rw[←k,e];simp)
end Go.Proofs.YtjlkmdmaimednaaGreat.Pure
namespace Go.Proofs.YtjlkmdmaimednaaGreat.Pure
open Go Go.Ab Go.Stable Go.Proofs.YtjlkmdmaimednaaGreat.R
def covH (x:HI):Int:=covC (toR x)
def setQ (x:HI)(q:Int):HI:=⟨⟨x.Lot.ISIN,q⟩,x.Asset,x.Price,x.Cut⟩
theorem Qc4 (x:HI):Qfp x (covH x):=Qgh (toR x)
theorem RHCovers_r (x:HI):zda_r (toR x) (covH x):=RCovers_r (toR x)
theorem cov_q {x:HI}{q:Int}(h:goodS x.Price x.Cut=true) (hq:0≤q∧q≤1125899906842624):covH (setQ x q)=cv q x.Price x.Cut:=by
 have:=Qcs h hq
 show(coverS q x.Price x.Cut).1=_
 rw[this]
end Go.Proofs.YtjlkmdmaimednaaGreat.Pure
namespace Go.Proofs.YtjlkmdmaimednaaGreat.Pure
open Go Go.Ab Go.Stable Go.Proofs.YtjlkmdmaimednaaGreat.R
def atH (s:ByteArray):List HI→Int
 |[] => -1
 |y::l=>if y.Lot.ISIN=s then 0 else if atH s l<0 then -1 else atH s l+1
theorem atH_or (s:ByteArray):∀l:List HI,(atH s l = -1∧∀y∈l,y.Lot.ISIN≠s)∨(∃A y B,l=A++y::B∧y.Lot.ISIN=s∧atH s l=(A.length:Nat))
 |[] => .inl ⟨rfl,by simp⟩
 |z::l=>by
  simp only[atH]
  by_cases c:z.Lot.ISIN=s
  ·rw[if_pos c];exact .inr ⟨[],z,l,rfl,c,rfl⟩
  ·rw[if_neg c]
   rcases atH_or s l with⟨h1,h2⟩|⟨A,y,B,h1,h2,h3⟩
   ·rw[if_pos (by omega)]
    refine .inl ⟨rfl,fun y hy => ?_⟩
    rcases List.mem_cons.1 hy with rfl|hy
    ·exact c
    ·exact h2 y hy
   ·rw[if_neg (by omega)]
    exact .inr ⟨z::A,y,B,by rw[h1];rfl,h2,by rw[h3];simp⟩
theorem ofc_r (x:HI) (s:ByteArray):zfd_r x s (strEq x.Lot.ISIN s):=by
 refine zfd_of ?_
 unfold zfd_w
 exact Rt.i rfl
theorem ffind_l {out:List HI}{s:ByteArray}{Q0:Int→Prop}{Q1:Unit→Prop}(hl:out.length≤1000):∀(n i:Nat),n+i=out.length→(0≤atH s (out.drop i)→Q0 (i+atH s (out.drop i)))→(atH s (out.drop i) = -1→Q1 ())→
  zak_L0 out s Q0 Q1 (i:Int):=by
 intro n
 induction n with
 |zero=>
  intro i h q0 q1
  refine zak_l0 ?_
  unfold zak_w0
  rw[Qab]
  rw[List.drop_of_length_le (by omega)] at q1
  exact Br.neg (by omega) (Lf.i (q1 rfl))
 |succ n ih=>
  intro i h q0 q1
  have hs:i<out.length:=by omega
  refine zak_l0 ?_
  unfold zak_w0
  rw[Qab]
  rw[List.drop_eq_getElem_cons hs] at q0 q1
  have g:out[(i:Int).toNat]? = some out[i]:=by simp[hs]
  simp only[atH] at q0 q1
  refine Br.pos (by omega) (InL.i ⟨out[i],EltG.i ⟨_,ofc_r _ _,Br.i (fun c=>Lf.i ?_) (fun c=>Num.n (by omega) ?_)⟩ g⟩ (by omega) (by simpa using hs))
  ·rw[if_pos c] at q0;simpa using q0 (Int.le_refl _)
  ·rw[if_neg c] at q0 q1
   refine ih (i+1) (by omega) (fun h0 => ?_) (fun h0=>q1 (by rw[if_pos (by omega)]))
   rw[if_neg (by omega)] at q0
   have:=q0 (by omega)
   rw[show(((i+1:Nat)):Int)+atH s (out.drop (i+1))=(i:Int)+(atH s (out.drop (i+1))+1) by omega]
   exact this
theorem FOf_r {t:zao}{out:List HI}{s:ByteArray}(hl:out.length≤1000):zfm_r ⟨t,out⟩ s (atH s out):=by
 refine zfm_of ?_
 unfold zfm_w
 refine⟨atH s out,zak_of ?_,Rt.i rfl⟩
 unfold zak_w
 exact ffind_l hl out.length 0 (by omega) (fun h=>Rt.i (by simp)) (fun h=>Rt.i (by simpa using h.symm))
def q0F (t:zao)(x:HI)(qty cover:Int):Int:=
 if (leastS (openT t+cover) x.Price x.Cut).2=true∧(leastS (openT t+cover) x.Price x.Cut).1≤qty+x.Lot.Qty then(leastS (openT t+cover) x.Price x.Cut).1 else qty+x.Lot.Qty
def q1F (t:zao)(x:HI)(cover q:Int):Int:=if room t x.Asset<cv q x.Price x.Cut-cover then mostS (room t x.Asset+cover) x.Price x.Cut q else q
def qF (t:zao)(x:HI)(qty cover:Int):Int:=q1F t x cover (q0F t x qty cover)
theorem leastS_bd {n p c:Int}(h:goodS p c=true):0≤(leastS n p c).1∧(leastS n p c).1≤1125899906842624:=by
 unfold leastS
 rw[if_neg (by simp[h])]
 split
 ·simp
 ·split
  ·simp
  ·have:=least_nn (need:=n) h (by omega)
   simp;omega
theorem q0_bd {t:zao}{x:HI}{qty cover:Int}(hx:It x) (h0:0≤qty) (h1:qty+x.Lot.Qty≤1125899906842624):0≤q0F t x qty cover∧q0F t x qty cover≤1125899906842624:=by
 have h2:=hx.pos
 have:=leastS_bd (n:=openT t+cover) hx.good
 unfold q0F
 split<;>omega
theorem q1_bd {t:zao}{x:HI}{cover q:Int}(hx:It x) (ht:Tok t) (hc:0≤cover) (hq:0≤q∧q≤1125899906842624):(0≤q1F t x cover q∧q1F t x cover q≤1125899906842624)∧cv (q1F t x cover q) x.Price x.Cut-cover≤room t x.Asset:=by
 have hr:=Qd9 (a:=x.Asset) ht
 unfold q1F
 split
 ·have lp:=least_pos (c:=x.Cut) (p:=x.Price) hx.good (show 0≤room t x.Asset+cover by omega)
  unfold mostS
  rw[if_neg (by simp[hx.good]),if_neg (by omega),if_neg (by omega),if_neg (by omega)]
  split
  ·rename_i h
   have:=(Qd6 hx.good).1 h
   exact⟨hq,by omega⟩
  ·rename_i h
   have:=(Qd6 (limit:=room t x.Asset+cover) (q:=least (room t x.Asset+cover+1) x.Price x.Cut-1) hx.good).1 (by omega)
   exact⟨⟨by omega,by omega⟩,by omega⟩
 ·exact⟨hq,by omega⟩
theorem Total_r {t:zao}{out:List HI}{x:HI}{qty cover:Int}(ht:Tok t) (hs:0≤t.sum) (hx:It x) (h0:0≤qty) (h1:qty+x.Lot.Qty≤1125899906842624) (hc:0≤cover∧cover≤4835703278458516699):
  zdl_r ⟨t,out⟩ x qty cover (qF t x qty cover):=by
 refine zdl_of ?_
 unfold zdl_w
 dsimp only
 have hr:=Qd9 (a:=x.Asset) ht
 have hn:=ht.need
 have ho:0≤openT t∧openT t≤1125899906842624:=by unfold openT;omega
 have hp:=hx.pos
 have hb:=q0_bd (t:=t) (cover:=cover) hx h0 h1
 have hcv:=cv_bd hx.good hb
 have fin:∀q,q=q0F t x qty cover→∃r4:Int×Int,(Qf7 q x.Price x.Cut r4)∧(Num .i64 (r4.1-cover) (Br (decide ((r4.1-cover)>room t x.Asset)) (Num .i64 (room t x.Asset+cover) (∃r5:Int,(zcu_r (room t x.Asset+cover) x.Price x.Cut q r5)∧(zdl_e ⟨t,out⟩ (fun v_=>v_=qF t x qty cover) r5))) (zdl_e ⟨t,out⟩ (fun v_=>v_=qF t x qty cover) q))):=by
  intro q e
  subst e
  refine⟨_,Qd5,?_⟩
  rw[Qcs hx.good hb]
  refine Num.n (by omega) (Br.i (fun c=>Num.n (by omega) ⟨_,Most_r,Rt.i ?_⟩) (fun c=>Rt.i ?_))
  ·unfold qF q1F;rw[if_pos c]
  ·unfold qF q1F;rw[if_neg c]
 refine⟨_,TOpen_r ht,_,TRoom_r ht,Num.n (by omega) ⟨_,Least_r,?_⟩⟩
 refine Br.b (fun c=>Num.n (by omega) (fin _ ?_)) (fun c=>Num.n (by omega) (Br.i (fun c2=>Num.n (by omega) (fin _ ?_)) (fun c2=>fin _ ?_)))
 ·have c:(leastS (openT t+cover) x.Price x.Cut).2=false:=by simpa using c
  unfold q0F;rw[c];simp
 ·unfold q0F;rw[if_neg (by omega)]
 ·have c:(leastS (openT t+cover) x.Price x.Cut).2=true:=by simpa using c
  unfold q0F;rw[if_pos ⟨c,by omega⟩]
def wasF (out:List HI)(x:HI):HI:=if 0≤atH x.Lot.ISIN out then at_ out (atH x.Lot.ISIN out).toNat else setQ x 0
def nF (t:zao)(out:List HI)(x:HI):Int:=covH (setQ x (qF t x (wasF out x).Lot.Qty (covH (wasF out x))))-covH (wasF out x)
def stepF (s:zao×List HI)(x:HI):zao×List HI:=
 if nF s.1 s.2 x≤0 then s
 else(putT s.1 x.Asset (nF s.1 s.2 x),if 0≤atH x.Lot.ISIN s.2 then s.2.set (atH x.Lot.ISIN s.2).toNat (setQ x (qF s.1 x (wasF s.2 x).Lot.Qty (covH (wasF s.2 x)))) else s.2++[setQ x (qF s.1 x (wasF s.2 x).Lot.Qty (covH (wasF s.2 x)))])
def fillF:zao×List HI→List HI→zao×List HI
 |s,[]=>s
 |s,x::l=>if openT s.1=0 then s else fillF (stepF s x) l
structure Fi (out l:List HI):Prop where
 it:∀x∈l,It x
 apart:l.Pairwise (fun x y=>x.Lot.ISIN≠y.Lot.ISIN)
 was:∀y∈out,goodS y.Price y.Cut=true∧0≤y.Lot.Qty∧y.Lot.Qty≤1125899906842624
 both:∀x∈l,∀y∈out,y.Lot.ISIN=x.Lot.ISIN→y.Asset=x.Asset∧y.Price=x.Price∧y.Cut=x.Cut∧y.Lot.Qty+x.Lot.Qty≤1125899906842624
theorem was_or {out l:List HI}{x:HI}(h:Fi out (x::l)):goodS (wasF out x).Price (wasF out x).Cut=true∧0≤(wasF out x).Lot.Qty∧(wasF out x).Lot.Qty+x.Lot.Qty≤1125899906842624∧(wasF out x).Lot.Qty≤1125899906842624∧
  ((atH x.Lot.ISIN out = -1∧wasF out x=setQ x 0∧covH (wasF out x)=0)∨(∃A B,out=A++wasF out x::B∧(wasF out x).Lot.ISIN=x.Lot.ISIN∧atH x.Lot.ISIN out=(A.length:Nat)∧∀q,setQ (wasF out x) q=setQ x q)):=by
 have ix:=h.it x (by simp)
 have px:=ix.pos
 have tx:=ix.top
 rcases atH_or x.Lot.ISIN out with⟨h1,h2⟩|⟨A,y,B,h1,h2,h3⟩
 ·have e:wasF out x=setQ x 0:=by unfold wasF;rw[if_neg (by omega)]
  rw[e]
  refine⟨ix.good,Int.le_refl _,?_,(by decide:(0:Int)≤1125899906842624),.inl ⟨h1,rfl,?_⟩⟩
  ·show 0+x.Lot.Qty≤_;omega
  ·rw[cov_q ix.good (by decide)];simp[cv]
 ·have e:wasF out x=y:=by
   unfold wasF;rw[if_pos (by omega),h3,Int.toNat_natCast]
   exact at_of (by rw[h1];simp)
  have hy:=h.was y (by rw[h1];simp)
  obtain⟨b1,b2,b3,b4⟩:=h.both x (by simp) y (by rw[h1];simp) h2
  rw[e]
  refine⟨hy.1,hy.2.1,b4,hy.2.2,.inr ⟨A,B,h1,h2,h3,fun q => ?_⟩⟩
  unfold setQ;rw[h2,b1,b2,b3]
theorem Qe8 {t:zao}{out l:List HI}{x:HI}(h:Fi out (x::l)) (ht:Tok t):Fi (stepF (t,out) x).2 l∧(stepF (t,out) x).2.length≤out.length+1∧nF t out x≤room t x.Asset∧(0≤qF t x (wasF out x).Lot.Qty (covH (wasF out x))∧qF t x (wasF out x).Lot.Qty (covH (wasF out x))≤1125899906842624)∧0≤covH (wasF out x)∧covH (wasF out x)≤4835703278458516699:=by
 obtain⟨w1,w2,w3,w4,w5⟩:=was_or h
 have ix:=h.it x (by simp)
 have cw:covH (wasF out x)=cv (wasF out x).Lot.Qty (wasF out x).Price (wasF out x).Cut:=cov_q (x:=wasF out x) w1 ⟨w2,w4⟩
 have cb:=cv_bd w1 ⟨w2,w4⟩
 rw[←cw] at cb
 have qb:=q1_bd (cover:=covH (wasF out x)) ix ht cb.1 (q0_bd (t:=t) (cover:=covH (wasF out x)) ix w2 w3)
 have qb1:0≤qF t x (wasF out x).Lot.Qty (covH (wasF out x))∧qF t x (wasF out x).Lot.Qty (covH (wasF out x))≤1125899906842624:=qb.1
 have hn:nF t out x≤room t x.Asset:=by
  unfold nF
  rw[cov_q ix.good qb1]
  exact qb.2
 have rest:∀o:List HI,(∀y∈o,y∈out∨y=setQ x (qF t x (wasF out x).Lot.Qty (covH (wasF out x))))→Fi o l:=fun o ho=>by
  refine⟨fun z hz=>h.it z (by simp[hz]),(List.pairwise_cons.1 h.apart).2,fun y hy => ?_,fun z hz y hy he => ?_⟩
  ·rcases ho y hy with hy|rfl
   ·exact h.was y hy
   ·exact⟨ix.good,qb1⟩
  ·rcases ho y hy with hy|rfl
   ·exact h.both z (by simp[hz]) y hy he
   ·exact absurd he ((List.pairwise_cons.1 h.apart).1 z hz)
 refine⟨?_,?_,hn,qb1,cb⟩
 ·unfold stepF
  split
  ·exact rest _ fun y hy => .inl hy
  ·dsimp only
   split
   ·exact rest _ fun y hy=>(List.mem_or_eq_of_mem_set hy)
   ·exact rest _ fun y hy=>by
     rcases List.mem_append.1 hy with hy|hy
     ·exact .inl hy
     ·exact .inr (List.mem_singleton.1 hy)
 ·unfold stepF
  split
  ·simp
  ·dsimp only
   split<;>simp
def stepR (t:zao)(out:List HI)(r:zal)(x:HI):zal:=if nF t out x≤0 then r else withR r x.Asset (nF t out x)
theorem step_al {t:zao}{out l:List HI}{x:HI}{r:zal}{n:Nat}(h:Fi out (x::l)) (ha:Al r t n) (hn:n≤1000):Al (stepR t out r x) (stepF (t,out) x).1 (n+1):=by
 have hs:=Qe8 h ha.tok
 unfold stepR stepF
 dsimp only
 by_cases c:nF t out x≤0
 ·rw[if_pos c,if_pos c]
  exact⟨ha.tok,ha.need,ha.issuer,ha.asset,ha.i,ha.a,ha.s,by have:=ha.len;omega,ha.bd,by have:=ha.s0;dsimp only;omega⟩
 ·rw[if_neg c,if_neg c]
  exact Al_put ha hn (by omega) hs.2.2.1
end Go.Proofs.YtjlkmdmaimednaaGreat.Pure
namespace Go.Proofs.YtjlkmdmaimednaaGreat.Pure
open Go Go.Ab Go.Stable Go.Proofs.YtjlkmdmaimednaaGreat.R
theorem fill_l {L:List HI}{Q0 Q1:(List zaa)×Int×Int×Int×Int×(GM Int Int)×(GM ByteArray Int)→Prop}(hl:L.length≤100):∀(n i:Nat)(t:zao)(out:List HI)(r:zal)(m:Nat),n+i=L.length→Fi out (L.drop i)→Al r t m→m+n≤500→out.length+n≤500→
  (∀t' out',fillF (t,out) (L.drop i)=(t',out')→Q0 (out',t'.need,t'.issuer,t'.asset,t'.sum,t'.issuers,t'.assets)∧Q1 (out',t'.need,t'.issuer,t'.asset,t'.sum,t'.issuers,t'.assets))→
  zbh_L0 L Q0 Q1 (i:Int) t.need t.issuer t.asset t.sum t.issuers t.assets out:=by
 intro n
 induction n with
 |zero=>
  intro i t out r m h hf ha hm ho q
  refine zbh_l0 ?_
  unfold zbh_w0
  rw[Qab]
  rw[List.drop_of_length_le (by omega)] at q
  exact Br.neg (by omega) (Lf.i (q t out rfl).1)
 |succ n ih=>
  intro i t out r m h hf ha hm ho q
  have hs:i<L.length:=by omega
  refine zbh_l0 ?_
  unfold zbh_w0
  rw[Qab]
  rw[List.drop_eq_getElem_cons hs] at q hf
  have g:L[(i:Int).toNat]? = some L[i]:=by simp[hs]
  refine Br.pos (by omega) ⟨L[i],Got.i ⟨openT t,TOpen_r ha.tok,Br.i (fun c=>Lf.i ?_) (fun c=>⟨_,FOf_r (t:=t) (out:=out) (by omega),?_⟩)⟩ (by omega) g⟩
  ·refine(q t out ?_).2
   simp only[fillF];rw[if_pos c]
  ·simp only[fillF] at q
   rw[if_neg c] at q
   obtain⟨w1,w2,w3,w4,w5⟩:=was_or hf
   obtain⟨s1,s2,s3,s4,s5,s6⟩:=Qe8 hf ha.tok
   have sal:=step_al hf ha (by omega)
   have ix:=hf.it L[i] (List.mem_cons_self ..)
   have hsum:=ha.s0
   have hroom:=Qd9 (a:=L[i].Asset) ha.tok
   have nx:Num .i64 ((i:Int)+1) (zbh_L0 L Q0 Q1 ((i:Int)+1) (stepF (t,out) L[i]).1.need (stepF (t,out) L[i]).1.issuer (stepF (t,out) L[i]).1.asset (stepF (t,out) L[i]).1.sum (stepF (t,out) L[i]).1.issuers (stepF (t,out) L[i]).1.assets (stepF (t,out) L[i]).2):=
    Num.n (by omega) (ih (i+1) _ _ _ (m+1) (by omega) s1 sal (by omega) (by omega) q)
   have cn:=covC_ok (toR (setQ L[i] (qF t L[i] (wasF out L[i]).Lot.Qty (covH (wasF out L[i])))))
   have J:zbh_j8 (atH L[i].Lot.ISIN out) L (i:Int) L[i] t.need t.issuer t.asset t.sum t.issuers t.assets out (zbh_L0 L Q0 Q1) Q0 Q1 ((wasF out L[i]).Lot.Qty,covH (wasF out L[i])):=by
    unfold zbh_j8
    refine Jn.i ⟨_,Total_r ha.tok hsum.1 ix w2 w3 ⟨s5,s6⟩,_,Qc4 (setQ L[i] (qF t L[i] (wasF out L[i]).Lot.Qty (covH (wasF out L[i])))),Num.n ?_ ?_⟩
    ·have:covH (setQ L[i] (qF t L[i] (wasF out L[i]).Lot.Qty (covH (wasF out L[i]))))=covC (toR (setQ L[i] (qF t L[i] (wasF out L[i]).Lot.Qty (covH (wasF out L[i]))))):=rfl
     omega
    ·show Br (decide (nF t out L[i]≤0)) _ _
     unfold stepF at nx
     dsimp only at nx
     refine Br.i (fun c2 => ?_) (fun c2 => ?_)
     ·rw[if_pos c2] at nx;exact nx
     ·rw[if_neg c2] at nx
      refine⟨(0,putT t L[i].Asset (nF t out L[i])),TAdd_ok ha.tok (show 0≤nF t out L[i] by omega) s3,Br.neg (fun h=>h rfl) ?_⟩
      dsimp only at nx ⊢
      refine Br.i (fun c3 => ?_) (fun c3 => ?_)
      ·rw[if_pos c3] at nx
       rcases w5 with⟨e1,_⟩|⟨A,B,e1,e2,e3,e4⟩
       ·omega
       ·have hlt:(atH L[i].Lot.ISIN out).toNat<out.length:=by rw[e3,Int.toNat_natCast,e1];simp
        have gw:out[(atH L[i].Lot.ISIN out).toNat]? = some (wasF out L[i]):=by
         rw[e3,Int.toNat_natCast]
         have:(A++wasF out L[i]::B)[A.length]? = some (wasF out L[i]):=by simp
         rw[←e1] at this;exact this
        refine InL.i ⟨wasF out L[i],EltS.i ?_ gw⟩ c3 (by simpa using hlt)
        have e5:=e4 (qF t L[i] (wasF out L[i]).Lot.Qty (covH (wasF out L[i])))
        show Num .i64 ((i:Int)+1) (zbh_L0 L Q0 Q1 ((i:Int)+1) _ _ _ _ _ _ (out.set (atH L[i].Lot.ISIN out).toNat (setQ (wasF out L[i]) (qF t L[i] (wasF out L[i]).Lot.Qty (covH (wasF out L[i]))))))
        rw[e5];exact nx
      ·rw[if_neg c3] at nx
       exact App2.i (app96 (by simp;omega)) nx
   rcases w5 with⟨e1,e2,e3⟩|⟨A,B,e1,e2,e3,e4⟩
   ·rw[e2] at J
    have e3':covH (setQ L[i] 0)=0:=by rw[←e2];exact e3
    rw[e3'] at J
    exact Br.neg (by omega) J
   ·have hlt:(atH L[i].Lot.ISIN out).toNat<out.length:=by rw[e3,Int.toNat_natCast,e1];simp
    have gw:out[(atH L[i].Lot.ISIN out).toNat]? = some (wasF out L[i]):=by
     rw[e3,Int.toNat_natCast]
     have:(A++wasF out L[i]::B)[A.length]? = some (wasF out L[i]):=by simp
     rw[←e1] at this;exact this
    have c3:0≤atH L[i].Lot.ISIN out:=by omega
    exact Br.pos (by omega) (InL.i ⟨wasF out L[i],EltG.i (InL.i (EltG.i ⟨_,Qc4 _,J⟩ gw) c3 (by simpa using hlt)) gw⟩ c3 (by simpa using hlt))
def fillR:zao×List HI→zal→List HI→zal
 |_,r,[]=>r
 |s,r,x::l=>if openT s.1=0 then r else fillR (stepF s x) (stepR s.1 s.2 r x) l
end Go.Proofs.YtjlkmdmaimednaaGreat.Pure
namespace Go.Proofs.YtjlkmdmaimednaaGreat.Pure
open Go Go.Ab Go.Stable Go.Proofs.YtjlkmdmaimednaaGreat.R
theorem mg_perm {α:Type}{le:α→α→Bool}:∀U V:List α,(mg le U V).Perm (U++V)
 |[],V=>by simp[mg]
 |u::U,[]=>by simp[mg]
 |u::U,v::V=>by
  rw[mg]
  split
  ·exact(mg_perm U (v::V)).cons u
  ·exact((mg_perm (u::U) V).cons v).trans (List.perm_middle (l₁:=u::U) (a:=v) (l₂:=V)).symm
theorem isort_perm':∀(L R:List E),(L.foldl (insS leE) R).Perm (R++L)
 |[],R=>by simp
 |x::L,R=>by
  rw[List.foldl_cons]
  refine(isort_perm' L _).trans ?_
  have:=(mg_perm (le:=leE) R [x]).append_right L
  rw[List.append_assoc] at this
  exact this
theorem Qap (L:List E):(isort leE L).Perm L:=by
 have:=isort_perm' L []
 simpa[isort] using this
theorem Qbb (L:List E):(isort leE L).length=L.length:=(Qap L).length_eq
end Go.Proofs.YtjlkmdmaimednaaGreat.Pure
namespace Go.Proofs.YtjlkmdmaimednaaGreat.Pure
open Go Go.Ab Go.Stable Go.Proofs.YtjlkmdmaimednaaGreat.R
theorem Qfx {l:List RI}(h:wrongS l=0):Fi [] (isort leE (l.map toH))∧l.length≤64:=by
 unfold wrongS at h
 split at h
 ·cases h
 ·rename_i hl
  obtain⟨w1,w2⟩:=Qgl l [] h
  refine⟨⟨fun x hx => ?_,?_,by simp,by simp⟩,by omega⟩
  ·have:=(Qap _).mem_iff.1 hx
   obtain⟨y,hy,rfl⟩:=List.mem_map.1 this
   exact(w1 y hy).1
  ·refine((Qap (l.map toH)).pairwise_iff (fun h e=>h e.symm)).2 ?_
   exact List.Pairwise.map _ (fun a b hab=>hab) w2
theorem fillR_al:∀(L:List HI)(t:zao)(out:List HI)(r:zal)(m:Nat),Fi out L→Al r t m→m+L.length≤500→∃m',Al (fillR (t,out) r L) (fillF (t,out) L).1 m'∧m'≤500∧(fillF (t,out) L).2.length≤out.length+L.length∧Fi (fillF (t,out) L).2 []
 |[],t,out,r,m,hf,ha,hm=>⟨m,ha,by simpa using hm,by simp[fillF],by simpa[fillF] using hf⟩
 |x::L,t,out,r,m,hf,ha,hm=>by
  simp only[List.length_cons] at hm
  simp only[fillF,fillR]
  by_cases c:openT t=0
  ·rw[if_pos c,if_pos c];exact⟨m,ha,by omega,by simp,⟨by simp,List.Pairwise.nil,hf.was,by simp⟩⟩
  ·rw[if_neg c,if_neg c]
   obtain⟨s1,s2,_⟩:=Qe8 hf ha.tok
   obtain⟨m',a,b,d,e⟩:=fillR_al L _ _ _ (m+1) s1 (step_al hf ha (by omega)) (by omega)
   have d:(fillF (stepF (t,out) x) L).2.length≤(stepF (t,out) x).2.length+L.length:=d
   exact⟨m',a,b,by simp only[List.length_cons];omega,e⟩
theorem FFill_r {l:List RI}{t:zao}{out:List HI}{r:zal}{m:Nat}(hl:l.length≤64) (hf:Fi out (isort leE (l.map toH))) (ha:Al r t m) (hm:m≤100) (ho:out.length≤100):
  zbh_r ⟨t,out⟩ (l.map toH) ⟨(fillF (t,out) (isort leE (l.map toH))).1,(fillF (t,out) (isort leE (l.map toH))).2⟩:=by
 have e:(isort leE (l.map toH)).length=l.length:=by rw[Qbb];simp
 refine zbh_of ?_
 unfold zbh_w
 refine⟨_,Rank_r (by simp;omega),fill_l (by omega) (isort leE (l.map toH)).length 0 t out r m (by omega) (by simpa using hf) ha (by omega) (by omega) (fun t' out' h => ?_)⟩
 rw[List.drop_zero] at h
 exact⟨Rt.i (by rw[h]),Rt.i (by rw[h])⟩
def planS (t:zao)(out:List HI):zed×Int:=
 if (mergeG [] (out.map (·.Lot))).2≠0 then(⟨[],0,0⟩,(mergeG [] (out.map (·.Lot))).2) else(⟨(mergeG [] (out.map (·.Lot))).1,t.sum,openT t⟩,0)
theorem Plan_r {t:zao}{out:List HI}(ht:Tok t) (ho:out.length≤1000):zez_r ⟨t,out⟩ (planS t out):=by
 refine zez_of ?_
 unfold zez_w planS
 refine⟨_,LOf_r (by show out.length≤_;omega),Br.i (fun c=>Rt.i (by rw[if_pos c])) (fun c=>⟨_,TSum_r,_,TOpen_r ht,Rt.i (by rw[if_neg c])⟩)⟩
end Go.Proofs.YtjlkmdmaimednaaGreat.Pure
namespace Go.Proofs.YtjlkmdmaimednaaGreat.Pure
open Go Go.Ab Go.Stable Go.Proofs.YtjlkmdmaimednaaGreat.R
def sumW (p:HI→Bool):List HI→Int
 |[]=>0
 |y::l=>(if p y=true then covH y else 0)+sumW p l
theorem Qb3 (p:HI→Bool):∀a b:List HI,sumW p (a++b)=sumW p a+sumW p b
 |[],b=>by simp[sumW]
 |y::a,b=>by simp only[List.cons_append,sumW,Qb3 p a b];omega
theorem sumW_perm (p:HI→Bool){a b:List HI}(h:a.Perm b):sumW p a=sumW p b:=by
 induction h with
 |nil=>rfl
 |cons x _ ih=>simp only[sumW,ih]
 |swap x y l=>simp only[sumW];omega
 |trans _ _ h1 h2=>rw[h1,h2]
theorem covH_nn (y:HI):0≤covH y:=(covC_ok (toR y)).1
theorem Qfs (p:HI→Bool):∀l:List HI,0≤sumW p l
 |[]=>Int.le_refl _
 |y::l=>by
  have:=covH_nn y;have:=Qfs p l
  simp only[sumW];split<;>omega
def pT (_:HI):Bool:=true
def pI (k:Int)(y:HI):Bool:=decide (y.Asset.Issuer=k)
def pA (k:ByteArray)(y:HI):Bool:=decide (y.Asset.ISIN=k)
def sumQ (s:ByteArray):List zab→Int
 |[]=>0
 |y::l=>(if y.ISIN=s then y.Qty else 0)+sumQ s l
theorem qtyG_other {s s':ByteArray}{q:Int}(hne:s'≠s):∀(l:List zab)(d:Bool),qtyG s' (setG s q d l)=qtyG s' l
 |[],true=>rfl
 |[],false=>by simp only[setG,qtyG];rw[if_neg (fun e=>hne e.symm)]
 |y::l,d=>by
  have ih:=qtyG_other (q:=q) hne l
  have e1:∀r:List zab,qtyG s' ((if y.ISIN=s then [] else [y])++r)=if y.ISIN=s' then y.Qty else qtyG s' r:=fun r=>by
   by_cases c:y.ISIN=s
   ·rw[if_pos c,if_neg (fun e=>hne (by rw[←e,c]))];rfl
   ·rw[if_neg c];rfl
  cases d with
  |true=>simp only[setG];rw[e1,ih true];rfl
  |false=>
   simp only[setG]
   split
   ·rw[e1,ih false];rfl
   ·show qtyG s' (⟨s,q⟩::_)=_
    simp only[qtyG]
    rw[if_neg (fun e=>hne e.symm),e1,ih true]
theorem qtyG_add {l:List zab}{x:zab}(h:Lk l) (h0:(addG l x).2=0) (s:ByteArray):qtyG s (addG l x).1=qtyG s l+(if x.ISIN=s then x.Qty else 0):=by
 obtain⟨A,B,e,hA,hB,hc⟩:=Qcr (x:=x) h
 unfold addG at h0 ⊢
 split at h0
 ·cases h0
 ·rename_i n1
  split at h0
  ·cases h0
  ·rename_i n2
   rw[if_neg n1,if_neg n2]
   by_cases c:x.ISIN=s
   ·subst c
    rw[if_pos rfl]
    have:∀(q:Int)(R:List zab),qtyG x.ISIN (A++⟨x.ISIN,q⟩::R)=q:=fun q R=>by
     rw[qtyG_A hA];simp[qtyG]
    rcases hc with⟨_,c2,c3⟩|⟨y,B',_,_,_,c2,c3⟩
    ·rw[c3,this]
    ·rw[c3,this]
   ·rw[if_neg c,Int.add_zero]
    exact qtyG_other (fun e=>c e.symm) l false
theorem Qdx (s:ByteArray):∀(l out r:List zab),Lk out→mergeG out l=(r,0)→qtyG s r=qtyG s out+sumQ s l∧Lk r
 |[],out,r,ho,h=>by
  simp only[mergeG,Prod.mk.injEq,and_true] at h
  subst h;exact⟨by simp[sumQ],ho⟩
 |x::l,out,r,ho,h=>by
  simp only[mergeG] at h
  split at h
  ·simp at h
  ·rename_i c
   split at h
   ·rename_i c2;simp only[Prod.mk.injEq] at h;exact absurd h.2 c2
   ·rename_i c2
    have c2:=Decidable.not_not.1 c2
    obtain⟨h1,h2⟩:=Qdx s l _ r (add_ok ho ⟨by omega,by omega⟩ c2) h
    refine⟨?_,h2⟩
    rw[h1,qtyG_add ho c2 s]
    simp only[sumQ];omega
theorem R1Plus_r {a b:Int}(ha:0≤a) (hb:0≤b) (h:a+b≤9223372036854775807):zdv_r a b (a+b,0):=by
 refine zdv_of ?_
 unfold zdv_w
 refine Br.i (fun c=>Num.n (by omega) (Br.neg (by omega) (Br.neg (by omega) (Num.n (by omega) (Rt.i rfl))))) (fun c=>Br.neg (by omega) (Num.n (by omega) (Rt.i rfl)))
theorem total_l {l:List HI}(h2:l.length≤1000){Q0 Q1:Int→Prop}:∀(n i:Nat)(acc:Int),n+i=l.length→0≤acc→acc+sumW pT (l.drop i)≤9223372036854775807→Q1 (acc+sumW pT (l.drop i))→zbz_L0 (l.map toR) Q0 Q1 acc (i:Int):=by
 intro n
 induction n with
 |zero=>
  intro i acc h ha hb q
  refine zbz_l0 ?_
  unfold zbz_w0
  rw[Qab,List.length_map]
  rw[List.drop_of_length_le (by omega)] at q
  exact Br.neg (by omega) (Lf.i (by simpa[sumW] using q))
 |succ n ih=>
  intro i acc h ha hb q
  have hi:i<l.length:=by omega
  refine zbz_l0 ?_
  unfold zbz_w0
  rw[Qab,List.length_map]
  rw[List.drop_eq_getElem_cons hi] at q hb
  have g:(l.map toR)[(i:Int).toNat]? = some (toR l[i]):=by simp[hi]
  simp only[sumW,pT,if_true] at q hb
  have nn:=Qfs pT (l.drop (i+1))
  have cn:=covH_nn l[i]
  have nn':0≤sumW (fun _=>true) (l.drop (i+1)):=nn
  refine Br.pos (by omega) ⟨toR l[i],Got.i ⟨_,RHCovers_r l[i],_,R1Plus_r ha cn (by omega),Br.neg (fun k=>k rfl) (Num.n (by omega) (ih (i+1) _ (by omega) (by omega) ?_ ?_))⟩ (by omega) g⟩
  ·show acc+covH l[i]+sumW pT (l.drop (i+1))≤_
   rw[Int.add_assoc];exact hb
  ·show Q1 (acc+covH l[i]+sumW pT (l.drop (i+1)))
   rw[Int.add_assoc];exact q
theorem Total15_r {l:List HI}(h2:l.length≤1000) (hb:sumW pT l≤9223372036854775807):zbz_r (l.map toR) (sumW pT l,0):=by
 refine zbz_of ?_
 unfold zbz_w
 exact total_l h2 l.length 0 0 (by omega) (Int.le_refl _) (by simpa using hb) (Rt.i (by simp))
end Go.Proofs.YtjlkmdmaimednaaGreat.Pure
namespace Go.Proofs.YtjlkmdmaimednaaGreat.Pure
open Go Go.Ab Go.Stable Go.Proofs.YtjlkmdmaimednaaGreat.R
set_option linter.unusedVariables false
set_option linter.unusedSimpArgs false
def marS (t need:Int):Int×Int:=if t-need < -9223372036854775808∨9223372036854775807<t-need then(0,9) else(t-need,0)
theorem wrap_hi {n:Int}(h1:9223372036854775807<n) (h2:n≤18446744073709551615):IntKind.wrap .i64 n=n-18446744073709551616:=by
 simp[IntKind.wrap,IntKind.bits,IntKind.signed];omega
theorem wrap_in {n:Int}(h1 : -9223372036854775808≤n) (h2:n≤9223372036854775807):IntKind.wrap .i64 n=n:=iw _ h1 h2
theorem FMinus_r {a b:Int}(ha:0≤a∧a≤9223372036854775807) (hb:InK .i64 b):zep_r a b (marS a b):=by
 have hb' : -9223372036854775808≤b∧b≤9223372036854775807:=hb
 refine zep_of ?_
 unfold zep_w marS
 refine Br.pos (by omega) (Br.i (fun c => ?_) (fun c=>Br.neg (by omega) (Rt.i ?_)))
 ·by_cases k:9223372036854775807<a-b
  ·rw[wrap_hi k (by omega)]
   exact Br.pos (by omega) (Rt.i (by rw[if_pos (.inr k)]))
  ·rw[wrap_in (by omega) (by omega)]
   exact Br.neg (by omega) (Br.neg (by omega) (Rt.i (by rw[if_neg (by omega)])))
 ·rw[wrap_in (by omega) (by omega),if_neg (by omega)]
theorem FPlus_r {a b:Int}(ha:0≤a) (hb:0≤b) (h:a+b≤9223372036854775807):zey_r a b (a+b,0):=by
 refine zey_of ?_
 unfold zey_w
 refine Num.n (by omega) (Br.i (fun c=>Br.i (fun c2=>Br.neg (by omega) (Br.neg (by omega) (Rt.i rfl))) (fun c2=>Br.neg (by omega) (Rt.i rfl))) (fun c=>Br.neg (by omega) (Rt.i rfl)))
theorem htotal_l {l:List HI}(h2:l.length≤1000){Q0 Q1:Int→Prop}:∀(n i:Nat)(acc:Int),n+i=l.length→0≤acc→acc+sumW pT (l.drop i)≤9223372036854775807→Q1 (acc+sumW pT (l.drop i))→zcs_L0 l Q0 Q1 acc (i:Int):=by
 intro n
 induction n with
 |zero=>
  intro i acc h ha hb q
  refine zcs_l0 ?_
  unfold zcs_w0
  rw[Qab]
  rw[List.drop_of_length_le (by omega)] at q
  exact Br.neg (by omega) (Lf.i (by simpa[sumW] using q))
 |succ n ih=>
  intro i acc h ha hb q
  have hi:i<l.length:=by omega
  refine zcs_l0 ?_
  unfold zcs_w0
  rw[Qab]
  rw[List.drop_eq_getElem_cons hi] at q hb
  have g:l[(i:Int).toNat]? = some l[i]:=by simp[hi]
  simp only[sumW,pT,if_true] at q hb
  have nn:=Qfs pT (l.drop (i+1))
  have cn:=covH_nn l[i]
  have nn':0≤sumW (fun _=>true) (l.drop (i+1)):=nn
  refine Br.pos (by omega) ⟨l[i],Got.i ⟨_,Qc4 l[i],_,FPlus_r ha cn (by omega),Br.neg (fun k=>k rfl) (Num.n (by omega) (ih (i+1) _ (by omega) (by omega) ?_ ?_))⟩ (by omega) g⟩
  ·show acc+covH l[i]+sumW pT (l.drop (i+1))≤_
   rw[Int.add_assoc];exact hb
  ·show Q1 (acc+covH l[i]+sumW pT (l.drop (i+1)))
   rw[Int.add_assoc];exact q
theorem Margin_r {l:List HI}{need:Int}(h2:l.length≤1000) (hb:sumW pT l≤9223372036854775807) (hN:InK .i64 need):zfi_r l need (marS (sumW pT l) need):=by
 refine zfi_of ?_
 unfold zfi_w
 refine⟨(sumW pT l,0),zcs_of ?_,Br.neg (fun k=>k rfl) ⟨_,FMinus_r ⟨Qfs _ _,hb⟩ hN,Rt.i rfl⟩⟩
 unfold zcs_w
 exact htotal_l h2 l.length 0 0 (by omega) (Int.le_refl _) (by simpa using hb) (Rt.i (by simp))
theorem sumW_le {M:Int}(hM:0≤M):∀{l:List HI},(∀x∈l,covH x≤M)→sumW pT l≤l.length*M
 |[],_=>by simp[sumW]
 |x::l,h=>by
  have:=sumW_le hM (l:=l) fun y hy=>h y (by simp[hy])
  have h1:=h x (by simp)
  simp only[sumW,pT,if_true,List.length_cons]
  have this':sumW (fun _=>true) l≤l.length*M:=this
  have e:((l.length+1:Nat):Int)*M=l.length*M+M:=by rw[Int.natCast_add,Int.add_mul];simp
  rw[e]
  show covH x+sumW (fun _=>true) l≤_
  omega
structure Good (l:List RI):Prop where
 len:l.length≤64
 it:∀x∈l.map toH,It x
 apart:(l.map toH).Pairwise (fun x y=>x.Lot.ISIN≠y.Lot.ISIN)
 cov:∀x∈l.map toH,covH x≤1125899906842624
 sum:sumW pT (l.map toH)≤72057594037927936
theorem good_of {l:List RI}(h:wrongS l=0):Good l:=by
 unfold wrongS at h
 split at h
 ·cases h
 ·rename_i hl
  obtain⟨h1,h2⟩:=Qgl l [] h
  have cov:∀x∈l.map toH,covH x≤1125899906842624:=fun x hx=>by
   obtain⟨y,hy,rfl⟩:=List.mem_map.1 hx
   exact(h1 y hy).2.1
  have hs:=sumW_le (M:=1125899906842624) (by omega) cov
  rw[List.length_map] at hs
  refine⟨by omega,fun x hx => ?_,List.pairwise_map.2 h2,cov,by omega⟩
  obtain⟨y,hy,rfl⟩:=List.mem_map.1 hx
  exact(h1 y hy).1
end Go.Proofs.YtjlkmdmaimednaaGreat.Pure
namespace Go.Proofs.YtjlkmdmaimednaaGreat.Pure
open Go Go.Ab Go.Sort Go.Proofs.YtjlkmdmaimednaaGreat.R
section
variable {κ ν:Type} [DecidableEq κ]
theorem putL_len (k:κ) (v:ν) (c:Nat):∀l:List (κ×Nat×ν),(putL k v c l).length≤l.length+1
 |[]=>by simp[putL]
 |x::l=>by
  simp only[putL];split
  ·simp
  ·have:=putL_len k v c l;simp only[List.length_cons];omega
theorem putL_some {k:κ}{v:ν}{c:Nat}:∀{l:List (κ×Nat×ν)},(getL k l).isSome=true→(putL k v c l).map (fun x=>(x.1,x.2.1))=l.map (fun x=>(x.1,x.2.1))
 |[],h=>by simp[getL] at h
 |x::l,h=>by
  simp only[putL];split
  ·rename_i e;simp[e]
  ·rename_i e;simp only[getL] at h;rw[if_neg e] at h;simp[putL_some h]
theorem putL_none {k:κ}{v:ν}{c:Nat}{l:List (κ×Nat×ν)}(h:(getL k l).isSome=false):putL k v c l=l++[(k,c,v)]∧∀x∈l,x.1≠k:=by
 induction l with
 |nil=>exact⟨rfl,by simp⟩
 |cons x l ih=>
  simp only[getL] at h
  split at h
  ·simp at h
  ·rename_i e
   obtain⟨h1,h2⟩:=ih h
   refine⟨by simp only[putL];rw[if_neg e,h1,List.cons_append],fun y hy => ?_⟩
   rcases List.mem_cons.1 hy with rfl|hy
   ·exact fun e2=>e e2.symm
   ·exact h2 y hy
theorem ok_put {kl:κ→Prop}{m:GM κ ν}{k:κ}{v:ν}(h:m.ok kl) (hk:kl k) (hl:m.es.length<1000000):(m.put k v).ok kl:=by
 unfold GM.put
 cases hg:(m.get? k).isSome with
 |true=>
  have e:=putL_some (v:=v) (c:=m.clock) hg
  have e1:(putL k v m.clock m.es).map (·.1)=m.es.map (·.1):=by have:=congrArg (List.map Prod.fst) e;simpa[Function.comp_def] using this
  have e2:(putL k v m.clock m.es).map (·.2.1)=m.es.map (·.2.1):=by have:=congrArg (List.map Prod.snd) e;simpa[Function.comp_def] using this
  refine⟨?_,?_,by rw[e2];exact h.born,by rw[e1];exact h.apart⟩
  ·have:=congrArg List.length e1;simp only[List.length_map] at this;show(putL k v m.clock m.es).length≤_;omega
  ·intro x hx
   have hx':(x.1,x.2.1)∈(putL k v m.clock m.es).map (fun x=>(x.1,x.2.1)):=List.mem_map.2 ⟨x,hx,rfl⟩
   rw[e] at hx'
   obtain⟨y,hy,ey⟩:=List.mem_map.1 hx'
   have:=h.keys y hy
   simp only[Prod.mk.injEq] at ey
   simp only[if_true]
   rw[←ey.1,←ey.2];exact this
 |false=>
  obtain⟨e,hne⟩:=putL_none (v:=v) (c:=m.clock) hg
  simp only[Bool.false_eq_true,if_false]
  refine⟨?_,?_,?_,?_⟩
  ·show(putL k v m.clock m.es).length≤_;rw[e];simp;omega
  ·intro x hx
   have hx:x∈putL k v m.clock m.es:=hx
   rw[e] at hx
   rcases List.mem_append.1 hx with hx|hx
   ·exact⟨by have:=(h.keys x hx).1;show x.2.1<m.clock+1;omega,(h.keys x hx).2⟩
   ·simp at hx;subst hx;exact⟨Nat.lt_succ_self _,hk⟩
  ·show((putL k v m.clock m.es).map _).Nodup
   rw[e,List.map_append]
   refine List.nodup_append.2 ⟨h.born,by simp,?_⟩
   intro a ha b hb
   simp at hb;subst hb
   obtain⟨y,hy,rfl⟩:=List.mem_map.1 ha
   have:=(h.keys y hy).1;omega
  ·show((putL k v m.clock m.es).map _).Nodup
   rw[e,List.map_append]
   refine List.nodup_append.2 ⟨h.apart,by simp,?_⟩
   intro a ha b hb
   simp at hb;subst hb
   obtain⟨y,hy,rfl⟩:=List.mem_map.1 ha
   exact hne y hy
omit [DecidableEq κ] in
theorem ok_nil {kl:κ→Prop}:(GM.nil:GM κ ν).ok kl:=⟨by simp[GM.nil],by simp[GM.nil],by simp[GM.nil],by simp[GM.nil]⟩
end
def useI (t:zao)(k:Int):zbb:=⟨k,ByteArray.empty,t.issuers.getD k 0,t.issuer⟩
def useA (t:zao)(k:ByteArray):zbb:=⟨-1,k,t.assets.getD k 0,t.asset⟩
def usesT (t:zao):List zbb:=
 ((sortI t.issuers.keys).filter fun k=>decide (0<t.issuers.getD k 0)).map (useI t)++((sortS t.assets.keys).filter fun k=>decide (0<t.assets.getD k 0)).map (useA t)
theorem app40 {n:Nat}(h:n≤3000000):App 40 n:=⟨by unfold maxLen;omega,by omega⟩
theorem uses_l1 {r:List ByteArray}{t:zao}{Q:List zbb→Prop}:∀(n s:Nat)(acc:List zbb),n+s=r.length→acc.length+n≤3000000→r.length≤3000000→Q (acc++((r.drop s).filter fun k=>decide (0<t.assets.getD k 0)).map (useA t))→zbm_L1 r t Q (s:Int) acc
 |0,s,acc,h,_,_,q=>by
  refine zbm_l1 ?_
  unfold zbm_w1
  rw[Qab]
  refine Br.neg (by omega) (Lf.i ?_)
  rw[List.drop_of_length_le (by omega)] at q
  simpa using q
 |n+1,s,acc,h,ha,hr,q=>by
  have hs:s<r.length:=by omega
  refine zbm_l1 ?_
  unfold zbm_w1
  rw[Qab]
  rw[List.drop_eq_getElem_cons hs,List.filter_cons] at q
  refine Br.pos (by omega) ⟨r[s],Got.i ?_ (by omega) (by simp[hs]), ⟩
  refine⟨_,_,Look.i ?_⟩
  refine Br.i (fun c=>App2.i (app40 (by simp;omega)) (Num.n (by omega) ?_)) (fun c=>Num.n (by omega) ?_)
  ·rw[decide_eq_true (show 0<t.assets.getD r[s] 0 from c)] at q
   exact uses_l1 n (s+1) _ (by omega) (by simp;omega) hr (by simpa[useA] using q)
  ·rw[decide_eq_false (show ¬ 0<t.assets.getD r[s] 0 from c)] at q
   exact uses_l1 n (s+1) _ (by omega) (by omega) hr (by simpa using q)
theorem uses_l0 {r:List Int}{t:zao}{Q:List zbb→Prop}:∀(n s:Nat)(acc:List zbb),n+s=r.length→acc.length+n≤3000000→r.length≤3000000→Q (acc++((r.drop s).filter fun k=>decide (0<t.issuers.getD k 0)).map (useI t))→zbm_L0 r t Q (s:Int) acc
 |0,s,acc,h,_,_,q=>by
  refine zbm_l0 ?_
  unfold zbm_w0
  rw[Qab]
  refine Br.neg (by omega) (Lf.i ?_)
  rw[List.drop_of_length_le (by omega)] at q
  simpa using q
 |n+1,s,acc,h,ha,hr,q=>by
  have hs:s<r.length:=by omega
  refine zbm_l0 ?_
  unfold zbm_w0
  rw[Qab]
  rw[List.drop_eq_getElem_cons hs,List.filter_cons] at q
  refine Br.pos (by omega) ⟨r[s],Got.i ?_ (by omega) (by simp[hs]), ⟩
  refine⟨_,_,Look.i ?_⟩
  refine Br.i (fun c=>App2.i (app40 (by simp;omega)) (Num.n (by omega) ?_)) (fun c=>Num.n (by omega) ?_)
  ·rw[decide_eq_true (show 0<t.issuers.getD r[s] 0 from c)] at q
   exact uses_l0 n (s+1) _ (by omega) (by simp;omega) hr (by simpa[useI] using q)
  ·rw[decide_eq_false (show ¬ 0<t.issuers.getD r[s] 0 from c)] at q
   exact uses_l0 n (s+1) _ (by omega) (by omega) hr (by simpa using q)
structure Kt (t:zao) (n:Nat):Prop where
 i:t.issuers.ok (InK .i64)
 a:t.assets.ok (fun b:ByteArray=>b.size≤maxLen)
 li:t.issuers.es.length≤n
 la:t.assets.es.length≤n
theorem sortI_len (l:List Int):(sortI l).length=l.length:=by unfold sortI;exact List.length_mergeSort _
theorem sortS_len (l:List ByteArray):(sortS l).length=l.length:=by unfold sortS;simp[List.length_mergeSort]
theorem Uses_r {t:zao}{n:Nat}(h:Kt t n) (hn:n≤1000):zbm_r t (usesT t):=by
 refine zbm_of ?_
 unfold zbm_w
 have h1:=h.li;have h2:=h.la
 have l1:(sortI t.issuers.keys).length≤n:=by rw[sortI_len];simp[GM.keys];omega
 have l2:(sortS t.assets.keys).length≤n:=by rw[sortS_len];simp[GM.keys];omega
 refine⟨keys180_ok _ (by decide) (by decide),_,sorted179_ok (by decide) h.i,uses_l0 _ 0 [] rfl (by simp;omega) (by omega) ?_⟩
 refine⟨keys182_ok _ (by decide) (by decide),_,sorted181_ok (by decide) h.a,uses_l1 _ 0 _ rfl ?_ (by omega) ?_⟩
 ·have:(((sortI t.issuers.keys).drop 0).filter fun k=>decide (0<t.issuers.getD k 0)).length≤(sortI t.issuers.keys).length:=by simpa using List.length_filter_le _ (sortI t.issuers.keys)
  simp only[List.nil_append,List.length_map];omega
 ·exact Rt.i (by simp[usesT])
def toldU (u:zbb):zai:=⟨u.Issuer,u.ISIN,u.Cover,u.Limit⟩
theorem ext_sorted {α:Type}{lt:α→α→Prop}(ir:∀a b,lt a b→¬ lt b a){l1 l2:List α}(h1:l1.Pairwise lt) (h2:l2.Pairwise lt) (h:∀x,x∈l1↔x∈l2):l1=l2:=by
 have n1:l1.Nodup:=h1.imp fun{a b} hab e=>by subst e;exact ir a a hab hab
 have n2:l2.Nodup:=h2.imp fun{a b} hab e=>by subst e;exact ir a a hab hab
 exact List.Perm.eq_of_pairwise (le:=lt) (fun a b _ _ hab hba=>absurd hba (ir a b hab)) h1 h2 ((List.perm_ext_iff_of_nodup n1 n2).2 h)
theorem sortI_lt {l:List Int}(h:l.Nodup):(sortI l).Pairwise (· < ·):=by
 have hs:(sortI l).Pairwise fun a b=>leI a b=true:=List.pairwise_mergeSort (fun a b c h1 h2=>by simp only[leI,decide_eq_true_eq] at *;omega) (fun a b=>by simp only[leI,Bool.or_eq_true,decide_eq_true_eq];omega) l
 have hn:(sortI l).Nodup:=(List.mergeSort_perm l leI).nodup_iff.2 h
 refine(hs.and hn).imp fun{a b} hab => ?_
 have:=hab.1;have:=hab.2
 simp only[leI,decide_eq_true_eq] at*
 omega
theorem mem_sortI {l:List Int}{x:Int}:x∈sortI l↔x∈l:=(List.mergeSort_perm l leI).mem_iff
def bLt (x y:ByteArray):Prop:=x.data.toList<y.data.toList
theorem bLt_asymm (x y:ByteArray) (h:bLt x y):¬ bLt y x:=fun h2=>List.lt_irrefl _ (List.lt_trans h h2)
theorem ba_ext {x y:ByteArray}(h:x.data.toList=y.data.toList):x=y:=by
 cases x;cases y;exact congrArg ByteArray.mk (Array.toList_inj.1 h)
theorem sortS_lt {l:List ByteArray}(h:l.Nodup):(sortS l).Pairwise bLt:=by
 unfold sortS
 have hm:(l.map fun b=>b.data.toList).Nodup:=List.Pairwise.map _ (fun a b hab e=>hab (ba_ext e)) h
 have hs:((l.map fun b=>b.data.toList).mergeSort leB).Pairwise fun a b=>leB a b=true:=List.pairwise_mergeSort (fun a b c h1 h2=>by simp only[leB,decide_eq_true_eq] at *;exact List.le_trans h1 h2) (fun a b=>by simp only[leB,Bool.or_eq_true,decide_eq_true_eq];exact List.le_total a b) _
 have hn:((l.map fun b=>b.data.toList).mergeSort leB).Nodup:=(List.mergeSort_perm _ leB).nodup_iff.2 hm
 refine List.Pairwise.map _ (fun a b hab => ?_) (hs.and hn)
 have h1:a≤b:=by simpa[leB] using hab.1
 show a<b
 by_cases hlt:a<b
 ·exact hlt
 ·exact absurd (List.le_antisymm h1 (List.not_lt.1 hlt)) hab.2
theorem mem_sortS {l:List ByteArray}{x:ByteArray}:x∈sortS l↔x∈l:=by
 unfold sortS
 simp only[List.mem_map,(List.mergeSort_perm _ leB).mem_iff]
 constructor
 ·rintro ⟨a,⟨b,hb,rfl⟩,rfl⟩;exact hb
 ·intro h;exact⟨_,⟨x,h,rfl⟩,rfl⟩
theorem mem_of_getL {κ ν:Type} [DecidableEq κ] {k:κ}{v:ν}:∀{l:List (κ×Nat×ν)},getL k l=some v→k∈l.map (·.1)
 |[],h=>by simp[getL] at h
 |x::l,h=>by
  simp only[getL] at h
  split at h
  ·rename_i e;simp[e]
  ·exact List.mem_cons_of_mem _ (mem_of_getL h)
theorem mem_of_pos {κ:Type} [DecidableEq κ] {m:GM κ Int}{k:κ}(h:0<m.getD k 0):k∈m.keys:=by
 unfold GM.getD at h
 cases hg:m.get? k with
 |none=>rw[hg] at h;simp at h
 |some v=>exact mem_of_getL hg
def posI (m:GM Int Int):List Int:=(sortI m.keys).filter fun k=>decide (0<m.getD k 0)
def posS (m:GM ByteArray Int):List ByteArray:=(sortS m.keys).filter fun k=>decide (0<m.getD k 0)
theorem posI_lt {m:GM Int Int}{kl:Int→Prop}(h:m.ok kl):(posI m).Pairwise (· < ·):=(sortI_lt h.apart).filter _
theorem posS_lt {m:GM ByteArray Int}{kl:ByteArray→Prop}(h:m.ok kl):(posS m).Pairwise bLt:=(sortS_lt h.apart).filter _
theorem mem_posI {m:GM Int Int}{k:Int}:k∈posI m↔0<m.getD k 0:=by
 unfold posI;rw[List.mem_filter,mem_sortI,decide_eq_true_eq]
 exact⟨fun h=>h.2,fun h=>⟨mem_of_pos h,h⟩⟩
theorem mem_posS {m:GM ByteArray Int}{k:ByteArray}:k∈posS m↔0<m.getD k 0:=by
 unfold posS;rw[List.mem_filter,mem_sortS,decide_eq_true_eq]
 exact⟨fun h=>h.2,fun h=>⟨mem_of_pos h,h⟩⟩
theorem usesT_eq (t:zao):usesT t=(posI t.issuers).map (useI t)++(posS t.assets).map (useA t):=rfl
section
variable {α:Type} (lt:α→α→Prop) [DecidableRel lt]
@[reducible] def okk (hv:Bool) (last k:α):Prop:=hv=false∨lt last k
def stepP (hv:Bool)(last:α)(p:α×Bool)(k:α):α×Bool:=if okk lt hv last k then(if p.2=false then(k,true) else if lt k p.1 then(k,true) else p) else p
def nextP (hv:Bool)(last:α)(l:List α)(p:α×Bool):α×Bool:=l.foldl (stepP lt hv last) p
structure Ord:Prop where
 asy:∀a b,lt a b→¬ lt b a
 nt:∀a b c,¬ lt a b→¬ lt b c→¬ lt a c
 tri:∀a b,¬ lt a b→¬ lt b a→a=b
variable {lt}
def NextSpec (lt:α→α→Prop) [DecidableRel lt] (hv:Bool)(last:α)(l:List α)(p r:α×Bool):Prop:=
 (r.2=false→p.2=false∧∀k∈l,¬ okk lt hv last k)∧
  (r.2=true→okk lt hv last r.1∧(r.1∈l∨(p.2=true∧r.1=p.1))∧(∀k∈l,okk lt hv last k→¬ lt k r.1)∧(p.2=true→¬ lt p.1 r.1))
theorem Qcq (O:Ord lt){hv:Bool}{last:α}:∀(l:List α)(p:α×Bool),(p.2=true→okk lt hv last p.1)→NextSpec lt hv last l p (nextP lt hv last l p)
 |[],p,hp=>⟨fun h=>⟨h,by simp⟩,fun h=>⟨hp h,.inr ⟨h,rfl⟩,by simp,fun _ h2=>O.asy _ _ h2 h2⟩⟩
 |k::l,p,hp=>by
  have e:nextP lt hv last (k::l) p=nextP lt hv last l (stepP lt hv last p k):=rfl
  rw[e]
  by_cases hk:okk lt hv last k
  ·have key:∀q:α×Bool,stepP lt hv last p k=q→q.2=true→okk lt hv last q.1→(q.1=k∨(p.2=true∧q.1=p.1))→¬ lt k q.1→(p.2=true→¬ lt p.1 q.1)→NextSpec lt hv last (k::l) p (nextP lt hv last l (stepP lt hv last p k)):=by
    intro q hq h1 h2 h3 h4 h5
    rw[hq]
    obtain⟨i1,i2⟩:=Qcq O l q (fun _=>h2)
    refine⟨fun h => ?_,fun h => ?_⟩
    ·have:=(i1 h).1;rw[h1] at this;cases this
    ·obtain⟨j1,j2,j3,j4⟩:=i2 h
     have j4:=j4 h1
     refine⟨j1,?_,fun x hx hox => ?_,fun hp2=>O.nt _ _ _ (h5 hp2) j4⟩
     ·rcases j2 with j2|⟨_,j2⟩
      ·exact .inl (List.mem_cons_of_mem _ j2)
      ·rcases h3 with h3|⟨h3,h3'⟩
       ·exact .inl (by rw[j2,h3];simp)
       ·exact .inr ⟨h3,by rw[j2,h3']⟩
     ·rcases List.mem_cons.1 hx with rfl|hx
      ·exact O.nt _ _ _ h4 j4
      ·exact j3 x hx hox
   by_cases hp2:p.2=false
   ·refine key (k,true) (by unfold stepP;rw[if_pos hk,if_pos hp2]) rfl hk (.inl rfl) (fun h=>O.asy _ _ h h) (fun h=>by rw[hp2] at h;cases h)
   ·have hp3:p.2=true:=by simpa using hp2
    by_cases hlt:lt k p.1
    ·exact key (k,true) (by unfold stepP;rw[if_pos hk,if_neg hp2,if_pos hlt]) rfl hk (.inl rfl) (fun h=>O.asy _ _ h h) (fun _=>O.asy _ _ hlt)
    ·exact key p (by unfold stepP;rw[if_pos hk,if_neg hp2,if_neg hlt]) hp3 (hp hp3) (.inr ⟨hp3,rfl⟩) hlt (fun _ h=>O.asy _ _ h h)
  ·have es:stepP lt hv last p k=p:=by unfold stepP;rw[if_neg hk]
   rw[es]
   obtain⟨i1,i2⟩:=Qcq O l p hp
   refine⟨fun h=>⟨(i1 h).1,fun x hx => ?_⟩,fun h => ?_⟩
   ·rcases List.mem_cons.1 hx with rfl|hx
    ·exact hk
    ·exact(i1 h).2 x hx
   ·obtain⟨j1,j2,j3,j4⟩:=i2 h
    refine⟨j1,j2.imp (List.mem_cons_of_mem _) id,fun x hx hox => ?_,j4⟩
    rcases List.mem_cons.1 hx with rfl|hx
    ·exact absurd hox hk
    ·exact j3 x hx hox
def toldTo (lt:α→α→Prop) [DecidableRel lt] (P:List α)(hv:Bool)(last:α):List α:=P.filter fun k=>decide (¬ okk lt hv last k)
theorem Qgc {P l:List α}{hv:Bool}{last:α}(hPl:∀k∈P,k∈l) (h:∀k∈l,¬ okk lt hv last k):toldTo lt P hv last=P:=by
 unfold toldTo
 exact List.filter_eq_self.2 fun k hk=>decide_eq_true (h k (hPl k hk))
theorem told_start {P:List α}{last:α}:toldTo lt P false last=[]:=by
 unfold toldTo
 exact List.filter_eq_nil_iff.2 fun k _=>by simp
theorem told_step (O:Ord lt){P l:List α}{hv:Bool}{last b:α}(hP:P.Pairwise lt) (hPl:∀k∈P,k∈l) (hb:okk lt hv last b) (hm:∀k∈l,okk lt hv last k→¬ lt k b) [DecidablePred (· ∈ P)]:
  toldTo lt P true b=toldTo lt P hv last++(if b∈P then [b] else []):=by
 have hbe:∀x,¬ okk lt hv last x→lt x b:=fun x hx=>by
  rcases Decidable.em (lt x b) with h|h
  ·exact h
  ·cases hv with
   |false=>exact absurd (.inl rfl) hx
   |true=>
    have h1:¬ lt last x:=fun e=>hx (.inr e)
    have h2:lt last b:=hb.resolve_left (by simp)
    exact absurd h2 (O.nt _ _ _ h1 h)
 refine ext_sorted O.asy (hP.filter _) ?_ fun x => ?_
 ·refine List.pairwise_append.2 ⟨hP.filter _,by split<;>simp,fun x hx y hy => ?_⟩
  have hx2:=(List.mem_filter.1 hx).2
  split at hy
  ·simp at hy;subst hy;exact hbe x (of_decide_eq_true hx2)
  ·simp at hy
 ·unfold toldTo
  rw[List.mem_append,List.mem_filter,List.mem_filter,decide_eq_true_eq,decide_eq_true_eq]
  constructor
  ·rintro ⟨hx,hn⟩
   have hn':¬ lt b x:=fun e=>hn (.inr e)
   by_cases ho:okk lt hv last x
   ·have e:x=b:=O.tri _ _ (hm x (hPl x hx) ho) hn'
    subst e
    exact .inr (by rw[if_pos hx];simp)
   ·exact .inl ⟨hx,ho⟩
  ·rintro (⟨hx,hn⟩|h)
   ·exact⟨hx,fun h=>by
     rcases h with h|h
     ·cases h
     ·exact O.asy _ _ (hbe x hn) h⟩
   ·split at h
    ·rename_i hbp
     simp at h;subst h
     exact⟨hbp,fun h=>by
      rcases h with h|h
      ·cases h
      ·exact O.asy _ _ h h⟩
    ·simp at h
theorem okk_less (O:Ord lt){l:List α}{hv:Bool}{last b:α}(hb:okk lt hv last b) (hbl:b∈l):(l.filter fun k=>decide (okk lt true b k)).length<(l.filter fun k=>decide (okk lt hv last k)).length:=by
 have sub:∀x,okk lt true b x→okk lt hv last x:=fun x hx=>by
  have h1:lt b x:=hx.resolve_left (by simp)
  cases hv with
  |false=>exact .inl rfl
  |true=>
   have h2:lt last b:=hb.resolve_left (by simp)
   rcases Decidable.em (lt last x) with h|h
   ·exact .inr h
   ·exact absurd h2 (O.nt _ _ _ h (O.asy _ _ h1))
 have nb:¬ okk lt true b b:=fun h=>by
  rcases h with h|h
  ·cases h
  ·exact O.asy _ _ h h
 induction l with
 |nil=>simp at hbl
 |cons x l ih=>
  simp only[List.filter_cons]
  have le:(l.filter fun k=>decide (okk lt true b k)).length≤(l.filter fun k=>decide (okk lt hv last k)).length:=by
   clear ih hbl
   induction l with
   |nil=>simp
   |cons y l ih=>
    simp only[List.filter_cons]
    by_cases h1:okk lt true b y
    ·rw[decide_eq_true h1,decide_eq_true (sub y h1)];simpa using ih
    ·by_cases h2:okk lt hv last y
     ·rw[decide_eq_false h1,decide_eq_true h2];simp only[Bool.false_eq_true,if_false,if_true,List.length_cons];omega
     ·rw[decide_eq_false h1,decide_eq_false h2];simpa using ih
  by_cases hxb:x=b
  ·subst hxb
   rw[decide_eq_false nb,decide_eq_true hb]
   simp only[Bool.false_eq_true,if_false,if_true,List.length_cons];omega
  ·have:=ih (by rcases List.mem_cons.1 hbl with h|h;exact absurd h.symm hxb;exact h)
   by_cases h1:okk lt true b x
   ·rw[decide_eq_true h1,decide_eq_true (sub x h1)];simpa using this
   ·by_cases h2:okk lt hv last x
    ·rw[decide_eq_false h1,decide_eq_true h2];simp only[Bool.false_eq_true,if_false,if_true,List.length_cons];omega
    ·rw[decide_eq_false h1,decide_eq_false h2];simpa using this
end
theorem ordZ:Ord (fun a b:Int=>a<b):=⟨fun _ _ h=>by omega,fun _ _ _ h1 h2=>by omega,fun _ _ h1 h2=>by omega⟩
instance:DecidableRel bLt:=fun a b=>decidable_of_iff (a.data.toList<b.data.toList) Iff.rfl
theorem ordS:Ord bLt:=⟨bLt_asymm,fun _ _ _ h1 h2=>List.not_lt.2 (List.le_trans (List.not_lt.1 h2) (List.not_lt.1 h1)),fun _ _ h1 h2=>ba_ext (List.le_antisymm (List.not_lt.1 h2) (List.not_lt.1 h1))⟩
theorem strLt_eq (x y:ByteArray):strLt x y=decide (bLt x y):=by
 unfold strLt;rw[bLess_eq,ByteArray.toList_eq,ByteArray.toList_eq];exact decide_eq_decide.2 Iff.rfl
theorem strLe_eq (x y:ByteArray):strLe x y=decide (¬ bLt y x):=by
 unfold strLe
 rw[strLt_eq]
 by_cases h:bLt y x
 ·have h1:¬ bLt x y:=bLt_asymm _ _ h
  have h2:x≠y:=fun e=>by subst e;exact bLt_asymm _ _ h h
  rw[decide_eq_false h1,strEq_false h2,decide_eq_false (fun h3=>h3 h)];rfl
 ·rw[decide_eq_true h]
  by_cases h1:bLt x y
  ·rw[decide_eq_true h1];rfl
  ·rw[Qc2 (ordS.tri _ _ h1 h)];simp
theorem nextI_l {r:zal}{last:Int}{hv:Bool}{acc:List zai}{Q:Int×Bool→Prop}(hl:r.L.length≤1000):∀(n s:Nat)(p:Int×Bool),n+s=r.L.length→Q (nextP (fun a b:Int=>a<b) hv last ((r.L.drop s).map (·.Issuer)) p)→Qf0 last hv r acc Q p.1 p.2 (s:Int)
 |0,s,p,h,q=>by
  refine zau_l1 ?_
  unfold zau_w1
  rw[Qab]
  refine Br.neg (by omega) (Lf.i ?_)
  rw[List.drop_of_length_le (by omega)] at q
  exact q
 |n+1,s,(b,f),h,q=>by
  have hs:s<r.L.length:=by omega
  refine zau_l1 ?_
  unfold zau_w1
  rw[Qab]
  rw[List.drop_eq_getElem_cons hs,List.map_cons] at q
  have q:Q (nextP (fun a b:Int=>a<b) hv last ((r.L.drop (s+1)).map (·.Issuer)) (stepP (fun a b:Int=>a<b) hv last (b,f) r.L[s].Issuer)):=q
  have g:r.L[(s:Int).toNat]? = some r.L[s]:=by simp[hs]
  have go:∀p',stepP (fun a b:Int=>a<b) hv last (b,f) r.L[s].Issuer=p'→Num .i64 ((s:Int)+1) (Qf0 last hv r acc Q p'.1 p'.2 ((s:Int)+1)):=by
   intro p' e
   rw[e] at q
   exact Num.n (by omega) (nextI_l hl n (s+1) p' (by omega) q)
  refine Br.pos (by omega) ⟨r.L[s],Got.i ?_ (by omega) g⟩
  have inn:okk (fun a b:Int=>a<b) hv last r.L[s].Issuer→Br (!f) (Num .i64 ((s:Int)+1) (Qf0 last hv r acc Q r.L[s].Issuer true ((s:Int)+1))) (Br (decide (r.L[s].Issuer<b)) (Num .i64 ((s:Int)+1) (Qf0 last hv r acc Q r.L[s].Issuer true ((s:Int)+1))) (Num .i64 ((s:Int)+1) (Qf0 last hv r acc Q b f ((s:Int)+1)))):=by
   intro ho
   cases f with
   |false=>exact Br.t rfl (go (_,true) (by unfold stepP;rw[if_pos ho,if_pos rfl]))
   |true=>
    refine Br.f rfl (Br.b (fun c=>go (_,true) ?_) (fun c=>go (b,true) ?_))
    ·skip
     unfold stepP;rw[if_pos ho,if_neg (by simp),if_pos (of_decide_eq_true c)]
    ·skip
     unfold stepP;rw[if_pos ho,if_neg (by simp),if_neg (of_decide_eq_false c)]
  cases hv with
  |false=>exact Br.t rfl (inn (.inl rfl))
  |true=>
   refine Br.f rfl (Br.b (fun c=>inn (.inr ?_)) (fun c=>go (b,f) ?_))
   ·exact of_decide_eq_true c
   ·have c:=of_decide_eq_false c
    unfold stepP;rw[if_neg]
    intro h
    exact c (h.resolve_left (by simp))
theorem nextA_l {r:zal}{last:ByteArray}{hv:Bool}{acc:List zai}{Q:ByteArray×Bool→Prop}(hl:r.L.length≤1000):∀(n s:Nat)(p:ByteArray×Bool),n+s=r.L.length→Q (nextP bLt hv last ((r.L.drop s).map (·.ISIN)) p)→Qfz last hv r acc Q p.1 p.2 (s:Int)
 |0,s,p,h,q=>by
  refine zaq_l1 ?_
  unfold zaq_w1
  rw[Qab]
  refine Br.neg (by omega) (Lf.i ?_)
  rw[List.drop_of_length_le (by omega)] at q
  exact q
 |n+1,s,(b,f),h,q=>by
  have hs:s<r.L.length:=by omega
  refine zaq_l1 ?_
  unfold zaq_w1
  rw[Qab]
  rw[List.drop_eq_getElem_cons hs,List.map_cons] at q
  have q:Q (nextP bLt hv last ((r.L.drop (s+1)).map (·.ISIN)) (stepP bLt hv last (b,f) r.L[s].ISIN)):=q
  have g:r.L[(s:Int).toNat]? = some r.L[s]:=by simp[hs]
  have go:∀p',stepP bLt hv last (b,f) r.L[s].ISIN=p'→Num .i64 ((s:Int)+1) (Qfz last hv r acc Q p'.1 p'.2 ((s:Int)+1)):=by
   intro p' e
   rw[e] at q
   exact Num.n (by omega) (nextA_l hl n (s+1) p' (by omega) q)
  refine Br.pos (by omega) ⟨r.L[s],Got.i ?_ (by omega) g⟩
  have inn:okk bLt hv last r.L[s].ISIN→Br (!f) (Num .i64 ((s:Int)+1) (Qfz last hv r acc Q r.L[s].ISIN true ((s:Int)+1))) (Br (strLt r.L[s].ISIN b) (Num .i64 ((s:Int)+1) (Qfz last hv r acc Q r.L[s].ISIN true ((s:Int)+1))) (Num .i64 ((s:Int)+1) (Qfz last hv r acc Q b f ((s:Int)+1)))):=by
   intro ho
   cases f with
   |false=>exact Br.t rfl (go (_,true) (by unfold stepP;rw[if_pos ho,if_pos rfl]))
   |true=>
    refine Br.f rfl (Br.b (fun c=>go (_,true) ?_) (fun c=>go (b,true) ?_))
    ·rw[strLt_eq] at c
     unfold stepP;rw[if_pos ho,if_neg (by simp),if_pos (of_decide_eq_true c)]
    ·rw[strLt_eq] at c
     unfold stepP;rw[if_pos ho,if_neg (by simp),if_neg (of_decide_eq_false c)]
  cases hv with
  |false=>exact Br.t rfl (inn (.inl rfl))
  |true=>
   refine Br.f rfl (Br.b (fun c=>inn (.inr ?_)) (fun c=>go (b,f) ?_))
   ·rw[strLe_eq] at c;simpa using c
   ·have c:¬ bLt last r.L[s].ISIN:=by rw[strLe_eq] at c;simpa using c
    unfold stepP;rw[if_neg]
    intro h
    exact c (h.resolve_left (by simp))
structure Ply (r:zal) (t:zao) (n:Nat):Prop where
 kt:Kt t n
 issuer:r.Issuer=t.issuer
 asset:r.Asset=t.asset
 i:∀k,ofI k r.L=t.issuers.getD k 0
 a:∀k,ofA k r.L=t.assets.getD k 0
 s:sumL r.L=t.sum
 len:r.L.length≤n
 bd:Small r.L
theorem Ply_put {r:zal}{t:zao}{n:Nat}{a:zaf}{c:Int}(h:Ply r t n) (hn:n≤1000) (ha:InK .i64 a.Issuer) (hb:a.ISIN.size≤maxLen) (hc:0≤c∧c≤1125899906842624):Ply (withR r a c) (putT t a c) (n+1):=by
 have l1:=h.kt.li;have l2:=h.kt.la
 refine⟨⟨ok_put h.kt.i ha (by omega),ok_put h.kt.a hb (by omega),?_,?_⟩,h.issuer,h.asset,fun k => ?_,fun k => ?_,?_,?_,?_⟩
 ·have:=putL_len a.Issuer (t.issuers.getD a.Issuer 0+c) t.issuers.clock t.issuers.es
  show(putL _ _ _ _).length≤_;omega
 ·have:=putL_len a.ISIN (t.assets.getD a.ISIN 0+c) t.assets.clock t.assets.es
  show(putL _ _ _ _).length≤_;omega
 ·simp only[withR,putT,Qba,ofI_app,h.i]
  by_cases e:a.Issuer=k
  ·rw[if_pos e,if_pos e.symm,e]
  ·rw[if_neg e,if_neg (fun e2=>e e2.symm)];omega
 ·simp only[withR,putT,Qba,ofA_app,h.a]
  by_cases e:a.ISIN=k
  ·rw[if_pos e,if_pos e.symm,e]
  ·rw[if_neg e,if_neg (fun e2=>e e2.symm)];omega
 ·simp only[withR,putT,sumL_app,h.s]
 ·have:=h.len;simp only[withR,List.length_append,List.length_cons,List.length_nil];omega
 ·intro p hp
  rcases List.mem_append.1 hp with hp|hp
  ·exact h.bd p hp
  ·simp at hp;subst hp;exact⟨by show -1125899906842624≤c;omega,hc.2⟩
theorem ofI_bd {k:Int}:∀{l:List zap},Small l → -(l.length*1125899906842624)≤ofI k l∧ofI k l≤l.length*1125899906842624
 |[],_=>by simp[ofI]
 |p::l,h=>by
  have h1:=ofI_bd (k:=k) (l:=l) fun q hq=>h q (List.mem_cons_of_mem _ hq)
  have h2:=h p (by simp)
  simp only[ofI,List.length_cons]
  split<;>omega
theorem ofA_bd {k:ByteArray}:∀{l:List zap},Small l → -(l.length*1125899906842624)≤ofA k l∧ofA k l≤l.length*1125899906842624
 |[],_=>by simp[ofA]
 |p::l,h=>by
  have h1:=ofA_bd (k:=k) (l:=l) fun q hq=>h q (List.mem_cons_of_mem _ hq)
  have h2:=h p (by simp)
  simp only[ofA,List.length_cons]
  split<;>omega
theorem sumL_bd:∀{l:List zap},Small l → -(l.length*1125899906842624)≤sumL l∧sumL l≤l.length*1125899906842624
 |[],_=>by simp[sumL]
 |p::l,h=>by
  have h1:=sumL_bd (l:=l) fun q hq=>h q (List.mem_cons_of_mem _ hq)
  have h2:=h p (by simp)
  simp only[sumL,List.length_cons]
  omega
theorem Gput_r {r:zal}{t:zao}{n:Nat}{a:zaf}{c:Int}(h:Ply r t n) (hn:n≤1000) (hc:0≤c∧c≤1125899906842624):zex_r t a c (putT t a c):=by
 refine zex_of ?_
 unfold zex_w
 have hl:=h.len
 have b1:=ofI_bd (k:=a.Issuer) h.bd;have b2:=ofA_bd (k:=a.ISIN) h.bd
 rw[h.i] at b1;rw[h.a] at b2
 have b3:=sumL_bd h.bd
 rw[h.s] at b3
 exact⟨_,_,Look.i (Num.n (by omega) ⟨_,Put.i ⟨_,_,Look.i (Num.n (by omega) ⟨_,Put.i (Num.n (by omega) (Rt.i rfl))⟩)⟩⟩)⟩
theorem posI_len {t:zao}{n:Nat}(h:Kt t n):(posI t.issuers).length≤n:=by
 have h1:=h.li
 have l1:(sortI t.issuers.keys).length≤n:=by rw[sortI_len];simp[GM.keys];omega
 have:=List.length_filter_le (fun k=>decide (0<t.issuers.getD k 0)) (sortI t.issuers.keys)
 unfold posI;omega
theorem posS_len {t:zao}{n:Nat}(h:Kt t n):(posS t.assets).length≤n:=by
 have h1:=h.la
 have l1:(sortS t.assets.keys).length≤n:=by rw[sortS_len];simp[GM.keys];omega
 have:=List.length_filter_le (fun k=>decide (0<t.assets.getD k 0)) (sortS t.assets.keys)
 unfold posS;omega
theorem usesI_loop {r:zal}{t:zao}{n:Nat}{Q:List zai→Prop}(h:Ply r t n) (hn:n≤1000) (q:Q ((posI t.issuers).map fun k=>toldU (useI t k))):
  ∀(k:Nat)(hv:Bool)(last:Int),((r.L.map (·.Issuer)).filter fun x=>decide (okk (fun a b:Int=>a<b) hv last x)).length≤k→zau_L0 r Q last hv ((toldTo (fun a b:Int=>a<b) (posI t.issuers) hv last).map fun k=>toldU (useI t k)):=by
 have hl:=h.len
 have hpl:=posI_len h.kt
 have hP:=posI_lt h.kt.i
 have hPl:∀k∈posI t.issuers,k∈r.L.map (·.Issuer):=fun k hk=>by
  have h1:=(mem_posI (m:=t.issuers)).1 hk
  rcases Classical.em (k∈r.L.map (·.Issuer)) with hm|hm
  ·exact hm
  ·have:=ofI_none hm;rw[h.i] at this;omega
 intro k
 induction k with
 |zero=>
  intro hv last hk
  refine zau_l0 ?_
  unfold zau_w0
  refine nextI_l (by omega) _ 0 (0,false) rfl ?_
  have sp:=Qcq ordZ (hv:=hv) (last:=last) (r.L.map (·.Issuer)) (0,false) (fun h=>by cases h)
  rw[List.drop_zero]
  generalize nextP (fun a b:Int=>a<b) hv last (r.L.map (·.Issuer)) (0,false)=R at sp ⊢
  cases hR:R.2 with
  |false=>
   refine Br.t rfl (Lf.i ?_)
   rw[Qgc hPl (sp.1 hR).2];exact q
  |true=>
   have s2:=sp.2 hR
   have:=List.length_eq_zero_iff.1 (Nat.le_zero.1 hk)
   have hm:R.1∈(r.L.map (·.Issuer)).filter fun x=>decide (okk (fun a b:Int=>a<b) hv last x):=List.mem_filter.2 ⟨s2.2.1.resolve_right (by simp),decide_eq_true s2.1⟩
   rw[this] at hm;cases hm
 |succ k ih=>
  intro hv last hk
  refine zau_l0 ?_
  unfold zau_w0
  refine nextI_l (by omega) _ 0 (0,false) rfl ?_
  have sp:=Qcq ordZ (hv:=hv) (last:=last) (r.L.map (·.Issuer)) (0,false) (fun h=>by cases h)
  rw[List.drop_zero]
  generalize nextP (fun a b:Int=>a<b) hv last (r.L.map (·.Issuer)) (0,false)=R at sp ⊢
  cases hR:R.2 with
  |false=>
   refine Br.t rfl (Lf.i ?_)
   rw[Qgc hPl (sp.1 hR).2];exact q
  |true=>
   have s2:=sp.2 hR
   have hbl:=s2.2.1.resolve_right (by simp)
   have hless:=okk_less ordZ s2.1 hbl
   have:DecidablePred (fun x=>x∈posI t.issuers):=fun _=>Classical.propDecidable _
   have st:=told_step ordZ hP hPl s2.1 s2.2.2.1
   have nx:=ih true R.1 (by omega)
   rw[st,List.map_append] at nx
   have o:=ROfI_r (k:=R.1) h.bd (by omega)
   rw[h.i] at o
   refine Br.f rfl ⟨_,o,Br.i (fun c=>⟨_,o,App2.i (app40 ?_) ?_⟩) (fun c => ?_)⟩
   ·have:=List.length_filter_le (fun k=>decide (¬ okk (fun a b:Int=>a<b) hv last k)) (posI t.issuers)
    simp only[toldTo,List.length_map,List.length_cons,List.length_nil];omega
   ·rw[if_pos ((mem_posI (m:=t.issuers)).2 c)] at nx
    rw[h.issuer]
    exact nx
   ·rw[if_neg (fun e=>c ((mem_posI (m:=t.issuers)).1 e))] at nx
    simp only[List.map_nil,List.append_nil] at nx
    exact nx
theorem usesA_loop {r:zal}{t:zao}{n:Nat}{Q:List zai→Prop}(h:Ply r t n) (hn:n≤1000) (q:Q ((posS t.assets).map fun k=>toldU (useA t k))):
  ∀(k:Nat)(hv:Bool)(last:ByteArray),((r.L.map (·.ISIN)).filter fun x=>decide (okk bLt hv last x)).length≤k→zaq_L0 r Q last hv ((toldTo bLt (posS t.assets) hv last).map fun k=>toldU (useA t k)):=by
 have hl:=h.len
 have hpl:=posS_len h.kt
 have hP:=posS_lt h.kt.a
 have hPl:∀k∈posS t.assets,k∈r.L.map (·.ISIN):=fun k hk=>by
  have h1:=(mem_posS (m:=t.assets)).1 hk
  rcases Classical.em (k∈r.L.map (·.ISIN)) with hm|hm
  ·exact hm
  ·have:=ofA_none hm;rw[h.a] at this;omega
 intro k
 induction k with
 |zero=>
  intro hv last hk
  refine zaq_l0 ?_
  unfold zaq_w0
  refine nextA_l (by omega) _ 0 ((⟨#[]⟩:ByteArray),false) rfl ?_
  have sp:=Qcq ordS (hv:=hv) (last:=last) (r.L.map (·.ISIN)) ((⟨#[]⟩:ByteArray),false) (fun h=>by cases h)
  rw[List.drop_zero]
  generalize nextP bLt hv last (r.L.map (·.ISIN)) ((⟨#[]⟩:ByteArray),false)=R at sp ⊢
  cases hR:R.2 with
  |false=>
   refine Br.t rfl (Lf.i ?_)
   rw[Qgc hPl (sp.1 hR).2];exact q
  |true=>
   have s2:=sp.2 hR
   have:=List.length_eq_zero_iff.1 (Nat.le_zero.1 hk)
   have hm:R.1∈(r.L.map (·.ISIN)).filter fun x=>decide (okk bLt hv last x):=List.mem_filter.2 ⟨s2.2.1.resolve_right (by simp),decide_eq_true s2.1⟩
   rw[this] at hm;cases hm
 |succ k ih=>
  intro hv last hk
  refine zaq_l0 ?_
  unfold zaq_w0
  refine nextA_l (by omega) _ 0 ((⟨#[]⟩:ByteArray),false) rfl ?_
  have sp:=Qcq ordS (hv:=hv) (last:=last) (r.L.map (·.ISIN)) ((⟨#[]⟩:ByteArray),false) (fun h=>by cases h)
  rw[List.drop_zero]
  generalize nextP bLt hv last (r.L.map (·.ISIN)) ((⟨#[]⟩:ByteArray),false)=R at sp ⊢
  cases hR:R.2 with
  |false=>
   refine Br.t rfl (Lf.i ?_)
   rw[Qgc hPl (sp.1 hR).2];exact q
  |true=>
   have s2:=sp.2 hR
   have hbl:=s2.2.1.resolve_right (by simp)
   have hless:=okk_less ordS s2.1 hbl
   have:DecidablePred (fun x=>x∈posS t.assets):=fun _=>Classical.propDecidable _
   have st:=told_step ordS hP hPl s2.1 s2.2.2.1
   have nx:=ih true R.1 (by omega)
   rw[st,List.map_append] at nx
   have o:=ROfA_r (k:=R.1) h.bd (by omega)
   rw[h.a] at o
   refine Br.f rfl ⟨_,o,Br.i (fun c=>⟨_,o,App2.i (app40 ?_) ?_⟩) (fun c => ?_)⟩
   ·have:=List.length_filter_le (fun k=>decide (¬ okk bLt hv last k)) (posS t.assets)
    simp only[toldTo,List.length_map,List.length_cons,List.length_nil];omega
   ·rw[if_pos ((mem_posS (m:=t.assets)).2 c)] at nx
    rw[h.asset]
    exact nx
   ·rw[if_neg (fun e=>c ((mem_posS (m:=t.assets)).1 e))] at nx
    simp only[List.map_nil,List.append_nil] at nx
    exact nx
theorem RAssets_r {r:zal}{t:zao}{n:Nat}(h:Ply r t n) (hn:n≤1000):zaq_r r ((posS t.assets).map fun k=>toldU (useA t k)):=by
 refine zaq_of ?_
 unfold zaq_w
 have:=usesA_loop (Q:=fun y=>zaq_e (fun v=>v=(posS t.assets).map fun k=>toldU (useA t k)) y) h hn (Rt.i rfl) _ false (⟨#[]⟩:ByteArray) (Nat.le_refl _)
 rw[told_start] at this
 exact this
theorem RUses_r {r:zal}{t:zao}{n:Nat}(h:Ply r t n) (hn:n≤1000):zau_r r ((usesT t).map toldU):=by
 have l1:=posI_len h.kt;have l2:=posS_len h.kt
 refine zau_of ?_
 unfold zau_w
 have:=usesI_loop (Q:=fun y=>∃r2:List zai,(zaq_r r r2)∧(App2 40 zai.enc y r2 (zau_e (fun v=>v=(usesT t).map toldU) (y++r2)))) h hn
  ⟨_,RAssets_r h hn,App2.i (app40 (by simp only[List.length_map];omega)) (Rt.i (by rw[usesT_eq,List.map_append,List.map_map,List.map_map];rfl))⟩ _ false 0 (Nat.le_refl _)
 rw[told_start] at this
 exact this
theorem RNew0 {b:zat}{need:Int}(h:¬ newOk b need):zdq_r b need (⟨0,0,0,[]⟩,1):=by
 refine zdq_of ?_
 unfold zdq_w
 refine Br.i (fun c=>Rt.i rfl) (fun c1=>Br.i (fun c=>Rt.i rfl) (fun c2=>Br.i (fun c=>Rt.i rfl) (fun c3=>Br.i (fun c=>Rt.i rfl) (fun c4=>Br.i (fun c=>Rt.i rfl) (fun c5=>Br.i (fun c=>Rt.i rfl) (fun c6=>absurd ?_ h))))))
 unfold newOk;omega
def above1 (x:zag):Bool:=decide (covC x>1125899906842624)
def putAll (l:List zag)(t:zao):zao:=l.foldl (fun t x=>putT t x.Asset (covC x)) t
def withAll (l:List zag)(r:zal):zal:=l.foldl (fun r x=>withR r x.Asset (covC x)) r
def KeyOk2 (l:List zag):Prop:=∀x∈l,InK .i64 x.Asset.Issuer∧x.Asset.ISIN.size≤maxLen
theorem Ply_all:∀(l:List zag){r:zal}{t:zao}{n:Nat},KeyOk2 l→l.any above1=false→n+l.length≤1000→Ply r t n→Ply (withAll l r) (putAll l t) (n+l.length)
 |[],r,t,n,_,_,_,h=>h
 |x::l,r,t,n,hk,hb,hn,h=>by
  simp only[List.any_cons,Bool.or_eq_false_iff] at hb
  simp only[List.length_cons] at hn
  have hx:=hk x (by simp)
  have hc:=covC_ok x
  have hb1:¬ covC x>1125899906842624:=of_decide_eq_false hb.1
  have:=Ply_all l (fun y hy=>hk y (List.mem_cons_of_mem _ hy)) hb.2 (by omega) (Ply_put (c:=covC x) h (by omega) hx.1 hx.2 ⟨hc.1,by omega⟩)
  rw[List.length_cons,Nat.add_comm l.length 1,←Nat.add_assoc]
  exact this
theorem over_l {l:List zag}{Q0:Unit→Prop}{Q1:(Int×Int×Int×Int×(GM Int Int)×(GM ByteArray Int))→Prop}(hk:KeyOk2 l) (hl:l.length≤64):
  ∀(n s:Nat)(t:zao),n+s=l.length→(∃r,Ply r t s)→((l.drop s).any above1=true→Q0 ())→((l.drop s).any above1=false→Q1 ((putAll (l.drop s) t).need,(putAll (l.drop s) t).issuer,(putAll (l.drop s) t).asset,(putAll (l.drop s) t).sum,(putAll (l.drop s) t).issuers,(putAll (l.drop s) t).assets))→
   zbr_L0b (l.map toH) Q0 Q1 (s:Int) t.need t.issuer t.asset t.sum t.issuers t.assets:=by
 intro n
 induction n with
 |zero=>
  intro s t h _ _ q1
  refine zbr_l0b ?_
  unfold zbr_w0b
  rw[Qab,List.length_map]
  refine Br.neg (by omega) (Lf.i ?_)
  rw[List.drop_of_length_le (by omega)] at q1
  exact q1 rfl
 |succ n ih=>
  intro s t h hp q0 q1
  have hs:s<l.length:=by omega
  refine zbr_l0b ?_
  unfold zbr_w0b
  rw[Qab,List.length_map]
  rw[List.drop_eq_getElem_cons hs] at q0 q1
  have hx:=hk _ (List.getElem_mem hs)
  have hc:=covC_ok l[s]
  obtain⟨r,hp⟩:=hp
  refine Br.pos (by omega) ⟨toH l[s],Got.i ⟨covC l[s],Qgh l[s],Br.i (fun c=>Lf.i (q0 ?_)) (fun c=>⟨covC l[s],Qgh l[s],putT t l[s].Asset (covC l[s]),Gput_r (t:=t) hp (by omega) ⟨hc.1,by omega⟩,Num.n (by omega) ?_⟩)⟩ (by omega) (by simp[hs])⟩
  ·simp only[List.any_cons,above1,decide_eq_true c,Bool.true_or]
  ·have hb:above1 l[s]=false:=decide_eq_false c
   refine ih (s+1) (putT t l[s].Asset (covC l[s])) (by omega) ⟨_,Ply_put hp (by omega) hx.1 hx.2 ⟨hc.1,by omega⟩⟩ (fun e=>q0 ?_) (fun e => ?_)
   ·simp only[List.any_cons,e,Bool.or_true]
   ·exact q1 (by simp only[List.any_cons,e,hb];rfl)
theorem rover_l {l:List zag}{Q0:Unit→Prop}{Q1:(Int×Int×Int×List zap)→Prop}(hl:l.length≤64):
  ∀(n s:Nat)(r:zal),n+s=l.length→r.L.length≤s→((l.drop s).any above1=true→Q0 ())→((l.drop s).any above1=false→Q1 ((withAll (l.drop s) r).Need,(withAll (l.drop s) r).Issuer,(withAll (l.drop s) r).Asset,(withAll (l.drop s) r).L))→
   zba_L0 l Q0 Q1 (s:Int) r.Need r.Issuer r.Asset r.L:=by
 intro n
 induction n with
 |zero=>
  intro s r h _ _ q1
  refine zba_l0 ?_
  unfold zba_w0
  rw[Qab]
  refine Br.neg (by omega) (Lf.i ?_)
  rw[List.drop_of_length_le (by omega)] at q1
  exact q1 rfl
 |succ n ih=>
  intro s r h hr q0 q1
  have hs:s<l.length:=by omega
  refine zba_l0 ?_
  unfold zba_w0
  rw[Qab]
  rw[List.drop_eq_getElem_cons hs] at q0 q1
  have g:l[(s:Int).toNat]? = some l[s]:=by simp[hs]
  refine Br.pos (by omega) ⟨l[s],Got.i ⟨covC l[s],RCovers_r l[s],Br.i (fun c=>Lf.i (q0 ?_)) (fun c=>Got.i (Got.i ⟨covC l[s],RCovers_r l[s],withR r l[s].Asset (covC l[s]),RWith_r (r:=r) (by omega),Num.n (by omega) ?_⟩ (by omega) g) (by omega) g)⟩ (by omega) g⟩
  ·simp only[List.any_cons,above1,decide_eq_true c,Bool.true_or]
  ·have hb:above1 l[s]=false:=decide_eq_false c
   refine ih (s+1) (withR r l[s].Asset (covC l[s])) (by omega) (by simp[withR];omega) (fun e=>q0 ?_) (fun e => ?_)
   ·simp only[List.any_cons,e,Bool.or_true]
   ·exact q1 (by simp only[List.any_cons,e,hb];rfl)
theorem above_l {r:List zbb}{Q:List zbb→Prop}:∀(n s:Nat)(acc:List zbb),n+s=r.length→acc.length+n≤3000000→r.length≤3000000→Q (acc++(r.drop s).filter fun u=>decide (u.Cover>u.Limit))→zbr_L1 r Q (s:Int) acc
 |0,s,acc,h,_,_,q=>by
  refine zbr_l1 ?_
  unfold zbr_w1
  rw[Qab]
  refine Br.neg (by omega) (Lf.i ?_)
  rw[List.drop_of_length_le (by omega)] at q
  simpa using q
 |n+1,s,acc,h,ha,hr,q=>by
  have hs:s<r.length:=by omega
  refine zbr_l1 ?_
  unfold zbr_w1
  rw[Qab]
  rw[List.drop_eq_getElem_cons hs,List.filter_cons] at q
  refine Br.pos (by omega) ⟨r[s],Got.i (Br.i (fun c=>App2.i (app40 (by simp;omega)) (Num.n (by omega) ?_)) (fun c=>Num.n (by omega) ?_)) (by omega) (by simp[hs])⟩
  ·rw[decide_eq_true c] at q
   exact above_l n (s+1) _ (by omega) (by simp;omega) hr (by simpa using q)
  ·rw[decide_eq_false c] at q
   exact above_l n (s+1) _ (by omega) (by omega) hr (by simpa using q)
theorem rabove_l {r:List zai}{Q:List zai→Prop}:∀(n s:Nat)(acc:List zai),n+s=r.length→acc.length+n≤3000000→r.length≤3000000→Q (acc++(r.drop s).filter fun u=>decide (u.Cover>u.Limit))→zba_L1 r Q (s:Int) acc
 |0,s,acc,h,_,_,q=>by
  refine zba_l1 ?_
  unfold zba_w1
  rw[Qab]
  refine Br.neg (by omega) (Lf.i ?_)
  rw[List.drop_of_length_le (by omega)] at q
  simpa using q
 |n+1,s,acc,h,ha,hr,q=>by
  have hs:s<r.length:=by omega
  refine zba_l1 ?_
  unfold zba_w1
  rw[Qab]
  rw[List.drop_eq_getElem_cons hs,List.filter_cons] at q
  have g:r[(s:Int).toNat]? = some r[s]:=by simp[hs]
  refine Br.pos (by omega) ⟨r[s],Got.i (Got.i (Br.i (fun c=>Got.i (App2.i (app40 (by simp;omega)) (Num.n (by omega) ?_)) (by omega) g) (fun c=>Num.n (by omega) ?_)) (by omega) g) (by omega) g⟩
  ·rw[decide_eq_true c] at q
   exact rabove_l n (s+1) _ (by omega) (by simp;omega) hr (by simpa using q)
  ·rw[decide_eq_false c] at q
   exact rabove_l n (s+1) _ (by omega) (by omega) hr (by simpa using q)
theorem Ply_new {b:zat}{need:Int}:Ply (newR b need) (newT b need) 0:=
 ⟨⟨ok_nil,ok_nil,Nat.le_refl _,Nat.le_refl _⟩,rfl,rfl,fun _=>rfl,fun _=>rfl,rfl,Nat.le_refl _,fun p hp=>(by cases hp)⟩
theorem usesT_len {t:zao}{n:Nat}(h:Kt t n):(usesT t).length≤2*n:=by
 have:=posI_len h;have:=posS_len h
 rw[usesT_eq];simp only[List.length_append,List.length_map];omega
def aboveT (t:zao):List zbb:=(usesT t).filter fun u=>decide (u.Cover>u.Limit)
def overS (b:zat)(need:Int)(l:List zag):List zbb×Int:=
 if 64<l.length then([],2) else if l.any above1=true then([],9) else(aboveT (putAll l (newT b need)),0)
theorem Over_r {b:zat}{need:Int}{l:List zag}(hk:KeyOk2 l) (h:newOk b need):zbr_r b need (l.map toH) (overS b need l):=by
 refine zbr_of ?_
 unfold zbr_w
 rw[Qab,List.length_map]
 refine .inr ⟨_,New_r1 h,Br.f rfl (Br.i (fun c=>Rt.i (by unfold overS;rw[if_pos (by omega)])) (fun c => ?_))⟩
 refine over_l hk (by omega) _ 0 (newT b need) rfl ⟨_,Ply_new⟩ (fun e => ?_) (fun e => ?_)
 ·exact Rt.i (by unfold overS;rw[if_neg (by omega),if_pos (by simpa using e)])
 ·rw[List.drop_zero] at e
  have hp:=Ply_all l hk e (by omega) (Ply_new (b:=b) (need:=need))
  have hl:=usesT_len hp.kt
  refine⟨usesT (putAll l (newT b need)),Uses_r (t:=putAll l (newT b need)) hp.kt (by omega),above_l _ 0 [] rfl (by simp;omega) (by omega) (Rt.i ?_)⟩
  unfold overS;rw[if_neg (by omega),if_neg (by simp[e])];rfl
theorem ROver_r {b:zat}{need:Int}{l:List zag}(hk:KeyOk2 l) (h:newOk b need):zba_r b need l ((overS b need l).1.map toldU,(overS b need l).2):=by
 refine zba_of ?_
 unfold zba_w
 rw[Qab]
 refine⟨_,RNew_r h,Br.f rfl (Br.i (fun c=>Rt.i (by unfold overS;rw[if_pos (by omega)];rfl)) (fun c => ?_))⟩
 refine rover_l (by omega) _ 0 (newR b need) rfl (Nat.le_refl _) (fun e => ?_) (fun e => ?_)
 ·exact Rt.i (by unfold overS;rw[if_neg (by omega),if_pos (by simpa using e)];rfl)
 ·rw[List.drop_zero] at e
  have hp:=Ply_all l hk e (by omega) (Ply_new (b:=b) (need:=need))
  have hl:=usesT_len hp.kt
  refine⟨_,RUses_r (r:=withAll l (newR b need)) hp (by omega),rabove_l _ 0 [] rfl (by simp;omega) (by simp;omega) (Rt.i ?_)⟩
  unfold overS;rw[if_neg (by omega),if_neg (by simp[e])]
  simp only[List.drop_zero,List.nil_append,aboveT,List.filter_map]
  rfl
theorem Over_r0 {b:zat}{need:Int}{l:List zaa}(h:¬ newOk b need):zbr_r b need l ([],1):=by
 refine zbr_of ?_
 unfold zbr_w
 exact .inl ⟨_,New_r0 h,Br.t rfl (Rt.i rfl)⟩
theorem ROver_r0 {b:zat}{need:Int}{l:List zag}(h:¬ newOk b need):zba_r b need l ([],1):=by
 refine zba_of ?_
 unfold zba_w
 exact⟨_,RNew0 h,Br.t rfl (Rt.i rfl)⟩
end Go.Proofs.YtjlkmdmaimednaaGreat.Pure
namespace Go.Proofs.YtjlkmdmaimednaaGreat.Pure
open Go Go.Ab Go.Stable Go.Proofs.YtjlkmdmaimednaaGreat.R
instance (b:zat) (need:Int):Decidable (newOk b need):=by unfold newOk;exact instDecidableAnd
def ovS (b:zat)(need:Int)(l:List RI):List zbb×Int:=if newOk b need then overS b need l else([],1)
theorem Over_all {b:zat}{need:Int}{l:List RI}(hk:KeyOk2 l):zbr_r b need (l.map toH) (ovS b need l):=by
 unfold ovS
 by_cases h:newOk b need
 ·rw[if_pos h];exact Over_r hk h
 ·rw[if_neg h];exact Over_r0 h
theorem ROver_all {b:zat}{need:Int}{l:List RI}(hk:KeyOk2 l):zba_r b need l ((ovS b need l).1.map toldU,(ovS b need l).2):=by
 unfold ovS
 by_cases h:newOk b need
 ·rw[if_pos h];exact ROver_r hk h
 ·rw[if_neg h];exact ROver_r0 h
theorem ov_new {b:zat}{need:Int}{l:List RI}(h:¬ (ovS b need l).2≠0):newOk b need:=by
 unfold ovS at h
 split at h
 ·assumption
 ·exact absurd (by decide) h
def goodG (b:zat)(l:List RI)(need:Int):Int:=
 if wrongS l≠0 then wrongS l else if (ovS b need l).2≠0 then(ovS b need l).2 else if 0<(ovS b need l).1.length then 24 else if sumW pT (l.map toH)<need then 25 else 0
theorem Good_r {b:zat}{l:List RI}{need:Int}(hk:KeyOk2 l) (hN:InK .i64 need):zfx_r b (l.map toH) need (goodG b l need):=by
 refine zfx_of ?_
 unfold zfx_w goodG
 refine⟨_,Check_r,Br.i (fun c=>Rt.i (by rw[if_pos c])) (fun c => ?_)⟩
 have g:=good_of (Decidable.not_not.1 c)
 rw[if_neg c]
 have hlen:(l.map toH).length≤64:=by rw[List.length_map];exact g.len
 have hs:=g.sum
 have nn:=Qfs pT (l.map toH)
 refine⟨_,Over_all hk,Br.i (fun c2=>Rt.i (by rw[if_pos c2])) (fun c2 => ?_)⟩
 have hn:=ov_new c2
 have hn0:=hn.1
 have hN1 : -9223372036854775808≤need∧need≤9223372036854775807:=hN
 rw[if_neg c2,Qab]
 refine Br.i (fun c3=>Rt.i (by rw[if_pos (by omega)])) (fun c3 => ?_)
 rw[if_neg (by omega)]
 have em:marS (sumW pT (l.map toH)) need=(sumW pT (l.map toH)-need,0):=by unfold marS;rw[if_neg (by omega)]
 have hm:=Margin_r (need:=need) (by omega:(l.map toH).length≤1000) (by omega) hN
 rw[em] at hm
 refine⟨_,hm,Br.neg (fun k=>k rfl) (Br.i (fun c4=>Rt.i ?_) (fun c4=>Rt.i ?_))⟩
 ·have c4:sumW pT (l.map toH)-need<0:=c4
  rw[if_pos (by omega)]
 ·have c4:¬ sumW pT (l.map toH)-need<0:=c4
  rw[if_neg (by omega)]
theorem RGood_r {b:zat}{l:List RI}{need:Int}(hk:KeyOk2 l):zeb_r b l need (goodG b l need):=by
 refine zeb_of ?_
 unfold zeb_w goodG
 refine⟨_,Wrong_r,Br.i (fun c=>⟨_,Wrong_r,Rt.i (by rw[if_pos c])⟩) (fun c => ?_)⟩
 have g:=good_of (Decidable.not_not.1 c)
 rw[if_neg c]
 have hlen:(l.map toH).length≤64:=by rw[List.length_map];exact g.len
 have hs:=g.sum
 have tt:=Total15_r (l:=l.map toH) (by omega) (by omega)
 rw[toR_toH] at tt
 refine⟨_,ROver_all hk,Br.i (fun c2=>Rt.i (by rw[if_pos (show(ovS b need l).2≠0 from c2)])) (fun c2 => ?_)⟩
 have c2:¬ (ovS b need l).2≠0:=c2
 rw[if_neg c2,Qab,List.length_map]
 refine Br.i (fun c3=>Rt.i (by rw[if_pos (by omega)])) (fun c3 => ?_)
 rw[if_neg (by omega)]
 refine⟨_,tt,Br.neg (fun k=>k rfl) (Br.i (fun c4=>Rt.i ?_) (fun c4=>Rt.i ?_))⟩
 ·rw[if_pos (show sumW pT (l.map toH)<need from c4)]
 ·rw[if_neg (show ¬ sumW pT (l.map toH)<need from c4)]
end Go.Proofs.YtjlkmdmaimednaaGreat.Pure
namespace Go.Proofs.YtjlkmdmaimednaaGreat.Pure
open Go Go.Ab Go.Stable Go.Proofs.YtjlkmdmaimednaaGreat.R
def kqF (t:zao)(x:HI):Int:=if room t x.Asset<covH x then mostS (room t x.Asset) x.Price x.Cut x.Lot.Qty else x.Lot.Qty
def keepF (s:zao×List HI)(x:HI):zao×List HI:=
 if 0<covH (setQ x (kqF s.1 x)) then(putT s.1 x.Asset (covH (setQ x (kqF s.1 x))),s.2++[setQ x (kqF s.1 x)]) else s
def keepR (t:zao)(r:zal)(x:HI):zal:=if 0<covH (setQ x (kqF t x)) then withR r x.Asset (covH (setQ x (kqF t x))) else r
def keptF:zao×List HI→List HI→zao×List HI
 |s,[]=>s
 |s,x::l=>keptF (keepF s x) l
def keptR:zao×List HI→zal→List HI→zal
 |_,r,[]=>r
 |s,r,x::l=>keptR (keepF s x) (keepR s.1 r x) l
theorem kq_bd {t:zao}{x:HI}(ht:Tok t) (hx:It x):0≤kqF t x∧kqF t x≤x.Lot.Qty∧0≤covH (setQ x (kqF t x))∧covH (setQ x (kqF t x))≤room t x.Asset:=by
 have hr:=Qd9 (a:=x.Asset) ht
 have p1:=hx.pos
 have p2:=hx.top
 have ec:covH x=cv x.Lot.Qty x.Price x.Cut:=cov_q (x:=x) (q:=x.Lot.Qty) hx.good ⟨by omega,p2⟩
 have main:(0≤kqF t x∧kqF t x≤x.Lot.Qty)∧cv (kqF t x) x.Price x.Cut≤room t x.Asset:=by
  unfold kqF
  split
  ·have lp:=least_pos (c:=x.Cut) (p:=x.Price) hx.good hr.1
   unfold mostS
   rw[if_neg (by simp[hx.good]),if_neg (by omega),if_neg (by omega),if_neg (by omega)]
   split
   ·rename_i h
    exact⟨by omega,(Qd6 hx.good).1 h⟩
   ·rename_i h
    exact⟨by omega,(Qd6 (limit:=room t x.Asset) (q:=least (room t x.Asset+1) x.Price x.Cut-1) hx.good).1 (by omega)⟩
  ·exact⟨by omega,by omega⟩
 have e:=cov_q (x:=x) hx.good (q:=kqF t x) ⟨main.1.1,by omega⟩
 have b:=cv_bd hx.good (q:=kqF t x) ⟨main.1.1,by omega⟩
 rw[e]
 exact⟨main.1.1,main.1.2,b.1,main.2⟩
theorem keep_al {t:zao}{out:List HI}{x:HI}{r:zal}{n:Nat}(ha:Al r t n) (hn:n≤1000) (hx:It x):Al (keepR t r x) (keepF (t,out) x).1 (n+1):=by
 obtain⟨k1,k2,k3,k4⟩:=kq_bd ha.tok hx
 unfold keepR keepF
 dsimp only
 by_cases c:0<covH (setQ x (kqF t x))
 ·rw[if_pos c,if_pos c]
  exact Al_put ha hn k3 k4
 ·rw[if_neg c,if_neg c]
  exact⟨ha.tok,ha.need,ha.issuer,ha.asset,ha.i,ha.a,ha.s,by have:=ha.len;omega,ha.bd,by have:=ha.s0;dsimp only;omega⟩
def From (h:List HI)(out:List HI):Prop:=∀y∈out,∃x∈h,∃q,0≤q∧q≤x.Lot.Qty∧y=setQ x q
theorem keep_from {h out:List HI}{t:zao}{x:HI}(hx:x∈h) (ix:It x) (ht:Tok t) (hf:From h out):From h (keepF (t,out) x).2∧(keepF (t,out) x).2.length≤out.length+1:=by
 obtain⟨k1,k2,k3,k4⟩:=kq_bd ht ix
 unfold keepF
 split
 ·refine⟨fun y hy => ?_,by simp⟩
  rcases List.mem_append.1 hy with hy|hy
  ·exact hf y hy
  ·exact⟨x,hx,_,k1,k2,List.mem_singleton.1 hy⟩
 ·exact⟨hf,by simp⟩
theorem keptR_al {h:List HI}:∀(L:List HI)(t:zao)(out:List HI)(r:zal)(m:Nat),(∀x∈L,x∈h∧It x)→From h out→Al r t m→m+L.length≤500→∃m',Al (keptR (t,out) r L) (keptF (t,out) L).1 m'∧m'≤m+L.length∧(keptF (t,out) L).2.length≤out.length+L.length∧From h (keptF (t,out) L).2
 |[],t,out,r,m,hi,hf,ha,hm=>⟨m,ha,by simp,by simp[keptF],by simpa[keptF] using hf⟩
 |x::L,t,out,r,m,hi,hf,ha,hm=>by
  simp only[List.length_cons] at hm
  simp only[keptF,keptR]
  have hx:=hi x (List.mem_cons_self ..)
  obtain⟨f1,f2⟩:=keep_from hx.1 hx.2 ha.tok hf
  obtain⟨m',a,b,d,e⟩:=keptR_al L _ _ _ (m+1) (fun y hy=>hi y (List.mem_cons_of_mem _ hy)) f1 (keep_al ha (by omega) hx.2) (by omega)
  have d:(keptF (keepF (t,out) x) L).2.length≤(keepF (t,out) x).2.length+L.length:=d
  exact⟨m',a,by simp only[List.length_cons];omega,by simp only[List.length_cons];omega,e⟩
theorem kept_l {L:List HI}{Q:(List zaa)×Int×Int×Int×Int×(GM Int Int)×(GM ByteArray Int)→Prop}(hl:L.length≤100):∀(n i:Nat)(t:zao)(out:List HI)(r:zal)(m:Nat),n+i=L.length→(∀x∈L.drop i,It x)→Al r t m→m+n≤500→out.length+n≤500→
  Q ((keptF (t,out) (L.drop i)).2,(keptF (t,out) (L.drop i)).1.need,(keptF (t,out) (L.drop i)).1.issuer,(keptF (t,out) (L.drop i)).1.asset,(keptF (t,out) (L.drop i)).1.sum,(keptF (t,out) (L.drop i)).1.issuers,(keptF (t,out) (L.drop i)).1.assets)→
  zcd_L0b L Q (i:Int) out t.need t.issuer t.asset t.sum t.issuers t.assets:=by
 intro n
 induction n with
 |zero=>
  intro i t out r m h hi ha hm ho q
  refine zcd_l0b ?_
  unfold zcd_w0b
  rw[Qab]
  rw[List.drop_of_length_le (by omega)] at q
  exact Br.neg (by omega) (Lf.i q)
 |succ n ih=>
  intro i t out r m h hi ha hm ho q
  have hs:i<L.length:=by omega
  refine zcd_l0b ?_
  unfold zcd_w0b
  rw[Qab]
  rw[List.drop_eq_getElem_cons hs] at q hi
  have g:L[(i:Int).toNat]? = some L[i]:=by simp[hs]
  simp only[keptF] at q
  have ix:=hi L[i] (List.mem_cons_self ..)
  obtain⟨k1,k2,k3,k4⟩:=kq_bd ha.tok ix
  have fl:(keepF (t,out) L[i]).2.length≤out.length+1:=by unfold keepF;split<;>simp
  have nx:Num .i64 ((i:Int)+1) (zcd_L0b L Q ((i:Int)+1) (keepF (t,out) L[i]).2 (keepF (t,out) L[i]).1.need (keepF (t,out) L[i]).1.issuer (keepF (t,out) L[i]).1.asset (keepF (t,out) L[i]).1.sum (keepF (t,out) L[i]).1.issuers (keepF (t,out) L[i]).1.assets):=
   Num.n (by omega) (ih (i+1) _ _ _ (m+1) (by omega) (fun x hx=>hi x (List.mem_cons_of_mem _ hx)) (keep_al ha (by omega) ix) (by omega) (by omega) q)
  unfold keepF at nx
  dsimp only at nx
  refine Br.pos (by omega) ⟨L[i],Got.i ⟨_,Qc4 _,_,TRoom_r ha.tok,Br.i (fun c=>⟨_,TRoom_r ha.tok,_,Most_r,_,Qc4 (setQ L[i] (mostS (room t L[i].Asset) L[i].Price L[i].Cut L[i].Lot.Qty)),?_⟩) (fun c=>⟨_,Qc4 (setQ L[i] L[i].Lot.Qty),?_⟩)⟩ (by omega) g⟩
  ·have e:kqF t L[i]=mostS (room t L[i].Asset) L[i].Price L[i].Cut L[i].Lot.Qty:=by unfold kqF;rw[if_pos c]
   rw[e] at nx k3 k4
   refine Br.i (fun c2 => ?_) (fun c2 => ?_)
   ·rw[if_pos c2] at nx
    exact⟨_,TAdd_ok ha.tok k3 k4,Br.pos rfl (App2.i (app96 (by simp;omega)) nx)⟩
   ·rw[if_neg c2] at nx;exact nx
  ·have e:kqF t L[i]=L[i].Lot.Qty:=by unfold kqF;rw[if_neg c]
   rw[e] at nx k3 k4
   refine Br.i (fun c2 => ?_) (fun c2 => ?_)
   ·rw[if_pos c2] at nx
    exact⟨_,TAdd_ok ha.tok k3 k4,Br.pos rfl (App2.i (app96 (by simp;omega)) nx)⟩
   ·rw[if_neg c2] at nx;exact nx
theorem Kept_r1 {b:zat}{l:List RI}{need:Int}(h:newOk b need) (hw:wrongS l=0):zcd_r1 b (l.map toH) need (⟨(keptF (newT b need,[]) (isort leE (l.map toH))).1,(keptF (newT b need,[]) (isort leE (l.map toH))).2⟩,0):=by
 obtain⟨f1,f2⟩:=Qfx hw
 have e:(isort leE (l.map toH)).length=l.length:=by rw[Qbb];simp
 refine zcd_of1 ?_
 unfold zcd_w
 refine .inr ⟨_,New_r1 h,Br.neg (fun k=>k rfl) ⟨_,Check_r,Br.neg (fun k=>k hw) ⟨_,Rank_r (by simp;omega),kept_l (by omega) (isort leE (l.map toH)).length 0 (newT b need) [] _ 0 (by omega) (by simpa using f1.it) (Al_new h) (by omega) (by simp;omega) (Rt.i (by rw[List.drop_zero]))⟩⟩⟩
theorem Kept_r0 {b:zat}{l:List RI}{need:Int}{v:Int}(hv:(¬ newOk b need∧v=1)∨(newOk b need∧wrongS l≠0∧v=wrongS l)):zcd_r0 b (l.map toH) need v:=by
 refine zcd_of0 ?_
 unfold zcd_w
 rcases hv with⟨h,rfl⟩|⟨h,h2,rfl⟩
 ·exact .inl ⟨_,New_r0 h,Br.pos (by decide) (Rt.i rfl)⟩
 ·exact .inr ⟨_,New_r1 h,Br.neg (fun k=>k rfl) ⟨_,Check_r,Br.pos h2 (Rt.i rfl)⟩⟩
theorem asset_eq {a b:zaf}:(a.ISIN=b.ISIN∧a.Issuer=b.Issuer∧a.Rating=b.Rating∧a.Maturity=b.Maturity∧a.Currency=b.Currency∧True)↔a=b:=by
 constructor
 ·rintro ⟨h1,h2,h3,h4,h5,_⟩
  cases a;cases b;simp_all
 ·rintro rfl;simp
instance (a b:zaf):Decidable (a=b):=decidable_of_iff _ asset_eq
def chk (x y:HI):Int:=if x.Asset=y.Asset then if x.Price=y.Price then if x.Cut=y.Cut then if 1125899906842624-y.Lot.Qty<x.Lot.Qty then 9 else 0 else 7 else 7 else 7
def ag1 (x:HI):List HI→Int
 |[]=>0
 |y::l=>if x.Lot.ISIN=y.Lot.ISIN then(if chk x y=0 then ag1 x l else chk x y) else ag1 x l
def agreeS (h:List HI):List HI→Int
 |[]=>0
 |x::l=>if ag1 x h=0 then agreeS h l else ag1 x h
theorem agree_l1 {h f:List HI}{x:HI}{s:Int}(hl:h.length≤100) (hi:∀y∈h,It y){Q0:Int→Prop}{Q1:Unit→Prop}:∀(n k:Nat),n+k=h.length→(ag1 x (h.drop k)≠0→Q0 (ag1 x (h.drop k)))→(ag1 x (h.drop k)=0→Q1 ())→zbw_L1 h f s x Q0 Q1 (k:Int):=by
 intro n
 induction n with
 |zero=>
  intro k h1 q0 q1
  refine zbw_l1 ?_
  unfold zbw_w1
  rw[Qab]
  rw[List.drop_of_length_le (by omega)] at q1
  exact Br.neg (by omega) (Lf.i (q1 rfl))
 |succ n ih=>
  intro k h1 q0 q1
  have hs:k<h.length:=by omega
  refine zbw_l1 ?_
  unfold zbw_w1
  rw[Qab]
  rw[List.drop_eq_getElem_cons hs] at q0 q1
  have g:h[(k:Int).toNat]? = some h[k]:=by simp[hs]
  have iy:=hi h[k] (List.getElem_mem hs)
  have p1:=iy.pos;have p2:=iy.top
  simp only[ag1] at q0 q1
  refine Br.pos (by omega) ⟨h[k],Got.i (Br.i (fun c=>Num.n (by omega) ?_) (fun c => ?_)) (by omega) g⟩
  ·rw[if_neg c] at q0 q1
   exact ih (k+1) (by omega) q0 q1
  ·have c:=Decidable.not_not.1 c
   rw[if_pos c] at q0 q1
   unfold chk at q0 q1
   refine Br.i (fun c1=>Lf.i ?_) (fun c1 => ?_)
   ·rw[if_neg (fun e=>c1 (asset_eq.2 e))] at q0;rw[if_neg (show ¬ (7:Int)=0 by decide)] at q0;exact q0 (by decide)
   ·have c1:=asset_eq.1 (Decidable.not_not.1 c1)
    rw[if_pos c1] at q0 q1
    refine Br.i (fun c2=>Lf.i ?_) (fun c2 => ?_)
    ·rw[if_neg c2] at q0;rw[if_neg (show ¬ (7:Int)=0 by decide)] at q0;exact q0 (by decide)
    ·have c2:=Decidable.not_not.1 c2
     rw[if_pos c2] at q0 q1
     refine Br.i (fun c3=>Lf.i ?_) (fun c3=>Num.n (by omega) ?_)
     ·rw[if_neg c3] at q0;rw[if_neg (show ¬ (7:Int)=0 by decide)] at q0;exact q0 (by decide)
     ·have c3:=Decidable.not_not.1 c3
      rw[if_pos c3] at q0 q1
      refine Br.i (fun c4=>Lf.i ?_) (fun c4=>Num.n (by omega) ?_)
      ·rw[if_pos c4] at q0;rw[if_neg (show ¬ (9:Int)=0 by decide)] at q0;exact q0 (by decide)
      ·rw[if_neg c4,if_pos rfl] at q0 q1
       exact ih (k+1) (by omega) q0 q1
theorem agree_l {h f:List HI}(hl:h.length≤100) (fl:f.length≤100) (hi:∀y∈h,It y){Q0:Int→Prop}{Q1:Unit→Prop}:∀(n k:Nat),n+k=f.length→(agreeS h (f.drop k)≠0→Q0 (agreeS h (f.drop k)))→(agreeS h (f.drop k)=0→Q1 ())→zbw_L0 h f Q0 Q1 (k:Int):=by
 intro n
 induction n with
 |zero=>
  intro k h1 q0 q1
  refine zbw_l0 ?_
  unfold zbw_w0
  rw[Qab]
  rw[List.drop_of_length_le (by omega)] at q1
  exact Br.neg (by omega) (Lf.i (q1 rfl))
 |succ n ih=>
  intro k h1 q0 q1
  have hs:k<f.length:=by omega
  refine zbw_l0 ?_
  unfold zbw_w0
  rw[Qab]
  rw[List.drop_eq_getElem_cons hs] at q0 q1
  have g:f[(k:Int).toNat]? = some f[k]:=by simp[hs]
  simp only[agreeS] at q0 q1
  refine Br.pos (by omega) ⟨f[k],Got.i (agree_l1 hl hi h.length 0 (by omega) (fun c=>Lf.i ?_) (fun c=>Num.n (by omega) ?_)) (by omega) g⟩
  ·rw[List.drop_zero] at c ⊢
   rw[if_neg c] at q0;exact q0 c
  ·rw[List.drop_zero] at c
   rw[if_pos c] at q0 q1
   exact ih (k+1) (by omega) q0 q1
theorem Agree_r {h f:List HI}(hl:h.length≤100) (fl:f.length≤100) (hi:∀y∈h,It y):zbw_r h f (agreeS h f):=by
 refine zbw_of ?_
 unfold zbw_w
 exact agree_l hl fl hi f.length 0 (by omega) (fun c=>Rt.i rfl) (fun c=>Rt.i c.symm)
theorem ag1_none {x:HI}:∀{h:List HI},(∀y∈h,y.Lot.ISIN≠x.Lot.ISIN)→ag1 x h=0
 |[],_=>rfl
 |y::h,hh=>by
  simp only[ag1]
  rw[if_neg (fun e=>hh y (by simp) e.symm)]
  exact ag1_none fun z hz=>hh z (by simp[hz])
theorem ag1_at {x:HI}{h:List HI}(ha:h.Pairwise (fun a b=>a.Lot.ISIN≠b.Lot.ISIN)):(atH x.Lot.ISIN h = -1∧ag1 x h=0)∨(∃A y B,h=A++y::B∧y.Lot.ISIN=x.Lot.ISIN∧atH x.Lot.ISIN h=(A.length:Nat)∧ag1 x h=chk x y):=by
 rcases atH_or x.Lot.ISIN h with⟨h1,h2⟩|⟨A,y,B,h1,h2,h3⟩
 ·exact .inl ⟨h1,ag1_none h2⟩
 ·refine .inr ⟨A,y,B,h1,h2,h3,?_⟩
  have hB:∀z∈B,z.Lot.ISIN≠x.Lot.ISIN:=fun z hz e=>by
   rw[h1] at ha
   have:=(List.pairwise_cons.1 (List.pairwise_append.1 ha).2.1).1 z hz
   exact this (by rw[h2,e])
  have hA:∀z∈A,z.Lot.ISIN≠x.Lot.ISIN:=fun z hz e=>by
   rw[h1] at ha
   exact(List.pairwise_append.1 ha).2.2 z hz y (by simp) (by rw[e,h2])
  have go:∀A:List HI,(∀z∈A,z.Lot.ISIN≠x.Lot.ISIN)→ag1 x (A++y::B)=chk x y:=by
   intro A
   induction A with
   |nil=>
    intro _
    simp only[List.nil_append,ag1]
    rw[if_pos h2.symm]
    by_cases c:chk x y=0
    ·rw[if_pos c,ag1_none hB,c]
    ·rw[if_neg c]
   |cons z A ih=>
    intro hz
    simp only[List.cons_append,ag1]
    rw[if_neg (fun e=>hz z (by simp) e.symm)]
    exact ih fun w hw=>hz w (by simp[hw])
  rw[h1];exact go A hA
theorem chk2_ok {x y:HI}(h:chk x y=0):y.Asset=x.Asset∧y.Price=x.Price∧y.Cut=x.Cut∧y.Lot.Qty+x.Lot.Qty≤1125899906842624:=by
 unfold chk at h
 split at h
 ·rename_i h1
  split at h
  ·rename_i h2
   split at h
   ·rename_i h3
    split at h
    ·cases h
    ·exact⟨h1.symm,h2.symm,h3.symm,by omega⟩
   ·cases h
  ·cases h
 ·cases h
theorem agree_ok {h:List HI}(ha:h.Pairwise (fun a b=>a.Lot.ISIN≠b.Lot.ISIN)):∀(f:List HI),agreeS h f=0→∀x∈f,∀y∈h,y.Lot.ISIN=x.Lot.ISIN→chk x y=0
 |[],_,x,hx,_,_,_=>by cases hx
 |z::f,hz,x,hx,y,hy,he=>by
  simp only[agreeS] at hz
  split at hz
  ·rename_i c
   rcases List.mem_cons.1 hx with rfl|hx
   ·rcases ag1_at (x:=x) ha with⟨a1,_⟩|⟨A,y',B,a0,a1,_,a3⟩
    ·rcases atH_or x.Lot.ISIN h with⟨_,h2⟩|⟨A,y',B,_,_,h3⟩
     ·exact absurd he (h2 y hy)
     ·omega
    ·have:y=y':=by
      rw[a0] at hy ha
      obtain⟨p1,p2,p3⟩:=List.pairwise_append.1 ha
      rcases List.mem_append.1 hy with hy|hy
      ·exact absurd (by rw[he,a1]) (p3 y hy y' (by simp))
      ·rcases List.mem_cons.1 hy with rfl|hy
       ·rfl
       ·exact absurd (by rw[he,a1]) ((List.pairwise_cons.1 p2).1 y hy)
     rw[this,←a3];exact c
   ·exact agree_ok ha f hz x hx y hy he
  ·rename_i c;exact absurd hz c
def topS (b:zat)(have_ free:List RI)(need:Int):zed×Int:=
 if ¬ newOk b need then(⟨[],0,0⟩,1) else if wrongS have_≠0 then(⟨[],0,0⟩,wrongS have_) else if wrongS free≠0 then(⟨[],0,0⟩,wrongS free) else if agreeS (have_.map toH) (free.map toH)≠0 then(⟨[],0,0⟩,agreeS (have_.map toH) (free.map toH))
 else planS (fillF (keptF (newT b need,[]) (isort leE (have_.map toH))) (isort leE (free.map toH))).1 (fillF (keptF (newT b need,[]) (isort leE (have_.map toH))) (isort leE (free.map toH))).2
theorem wrong_map {l:List RI}(h:wrongS l=0):(∀x∈l.map toH,It x)∧(l.map toH).Pairwise (fun x y=>x.Lot.ISIN≠y.Lot.ISIN):=by
 obtain⟨f1,f2⟩:=Qfx h
 refine⟨fun x hx=>f1.it x ((Qap _).mem_iff.2 hx),?_⟩
 exact((Qap (l.map toH)).pairwise_iff (fun h e=>h.symm e)).1 f1.apart
theorem top_fi {b:zat}{hv fr:List RI}{need:Int}(h:newOk b need) (h1:wrongS hv=0) (h2:wrongS fr=0) (h3:agreeS (hv.map toH) (fr.map toH)=0):
  ∃m',Al (keptR (newT b need,[]) (newR b need) (isort leE (hv.map toH))) (keptF (newT b need,[]) (isort leE (hv.map toH))).1 m'∧m'≤64∧(keptF (newT b need,[]) (isort leE (hv.map toH))).2.length≤64∧Fi (keptF (newT b need,[]) (isort leE (hv.map toH))).2 (isort leE (fr.map toH)):=by
 obtain⟨f1,f2⟩:=Qfx h1
 obtain⟨g1,g2⟩:=Qfx h2
 obtain⟨w1,w2⟩:=wrong_map h1
 obtain⟨v1,v2⟩:=wrong_map h2
 obtain⟨m',a,c,d,e⟩:=keptR_al (h:=hv.map toH) (isort leE (hv.map toH)) _ [] _ 0 (fun x hx=>⟨(Qap _).mem_iff.1 hx,f1.it x hx⟩) (fun y hy=>by cases hy) (Al_new h) (by rw[Qbb];simp;omega)
 rw[Qbb,List.length_map] at c d
 simp only[List.length_nil] at d
 refine⟨m',a,by omega,by omega,g1.it,g1.apart,fun y hy => ?_,fun x hx y hy he => ?_⟩
 ·obtain⟨x,hx,q,q0,q1,rfl⟩:=e y hy
  have ix:=w1 x hx
  have:=ix.top
  exact⟨ix.good,q0,by show q≤_;omega⟩
 ·obtain⟨z,hz,q,q0,q1,rfl⟩:=e y hy
  have hx':=(Qap _).mem_iff.1 hx
  have ck:=chk2_ok (agree_ok w2 _ h3 x hx' z hz he)
  exact⟨ck.1,ck.2.1,ck.2.2.1,by show q+x.Lot.Qty≤_;omega⟩
theorem Top_r {b:zat}{hv fr:List RI}{need:Int}:zgd_r b (hv.map toH) (fr.map toH) need (topS b hv fr need):=by
 refine zgd_of ?_
 unfold zgd_w topS
 by_cases h:newOk b need
 ·rw[if_neg (fun k=>k h)]
  by_cases h1:wrongS hv=0
  ·rw[if_neg (fun k=>k h1)]
   obtain⟨w1,w2⟩:=wrong_map h1
   obtain⟨f1,f2⟩:=Qfx h1
   refine .inr ⟨_,Kept_r1 h h1,Br.neg (fun k=>k rfl) ⟨_,Check_r,Br.i (fun c=>Rt.i (by rw[if_pos c])) (fun c => ?_)⟩⟩
   have c:=Decidable.not_not.1 c
   obtain⟨g1,g2⟩:=Qfx c
   rw[if_neg (fun k=>k c)]
   refine⟨_,Agree_r (by simp;omega) (by simp;omega) w1,Br.i (fun c2=>Rt.i (by rw[if_pos c2])) (fun c2 => ?_)⟩
   have c2:=Decidable.not_not.1 c2
   rw[if_neg (fun k=>k c2)]
   obtain⟨m',a,m1,ol,fi⟩:=top_fi h h1 c c2
   obtain⟨m2,a1,a2,a3,a4⟩:=fillR_al _ _ _ _ m' fi a (by rw[Qbb];simp;omega)
   rw[Qbb,List.length_map] at a3
   refine⟨_,FFill_r g2 fi a (by omega) (by omega),_,Plan_r a1.tok ?_,Rt.i rfl⟩
   omega
  ·rw[if_pos h1]
   exact .inl ⟨_,Kept_r0 (.inr ⟨h,h1,rfl⟩),Br.pos h1 (Rt.i rfl)⟩
 ·rw[if_pos h]
  exact .inl ⟨_,Kept_r0 (.inl ⟨h,rfl⟩),Br.pos (by decide) (Rt.i rfl)⟩
end Go.Proofs.YtjlkmdmaimednaaGreat.Pure
namespace Go.Proofs.YtjlkmdmaimednaaGreat.Pure
open Go Go.Ab Go.Stable Go.Proofs.YtjlkmdmaimednaaGreat.R
set_option linter.unusedVariables false
set_option linter.unusedSimpArgs false
def spQ (x:HI)(o:Int):Int:=least (max 0 (covH x-o)) x.Price x.Cut
def spN (x:HI)(o:Int):Int:=o-covH x+covH (setQ x (spQ x o))
def spK:List HI→Int→List HI
 |[],_=>[]
 |x::r,o=>setQ x (spQ x o)::spK r (spN x o)
def spO:List HI→Int→Int
 |[],o=>o
 |x::r,o=>spO r (spN x o)
def spF:List HI→Int→List zab
 |[],_=>[]
 |x::r,o=>(if spQ x o<x.Lot.Qty then [(⟨x.Lot.ISIN,x.Lot.Qty-spQ x o⟩:zab)] else [])++spF r (spN x o)
theorem cv_mono {q r p c:Int}(h:goodS p c=true) (hq:q≤r):cv q p c≤cv r p c:=
 (Qbq h).1 (Int.le_trans ((Qbq h).2 (Int.le_refl _)) hq)
theorem cov_self {x:HI}(hx:It x):covH x=cv x.Lot.Qty x.Price x.Cut:=by
 have h1:=hx.pos
 exact cov_q (x:=x) (q:=x.Lot.Qty) hx.good ⟨by omega,hx.top⟩
structure Sp (x:HI) (o:Int):Prop where
 q0:0≤spQ x o
 q1:spQ x o≤x.Lot.Qty
 cov:covH (setQ x (spQ x o))=cv (spQ x o) x.Price x.Cut
 n0:0≤spN x o
 n1:spN x o≤o
 small:1≤spQ x o→cv (spQ x o-1) x.Price x.Cut<covH x-o
 ls:leastS (max 0 (covH x-o)) x.Price x.Cut=(spQ x o,true)
 full:¬ spQ x o<x.Lot.Qty→spN x o=o
theorem sp_ok {x:HI}{o:Int}(hx:It x) (ho:0≤o):Sp x o:=by
 have h1:=hx.pos
 have h2:=hx.top
 have hc:=cov_self hx
 have hn:=covH_nn x
 have m0:0≤max 0 (covH x-o):=Int.le_max_left _ _
 have q0:0≤spQ x o:=least_nn hx.good m0
 have q1:spQ x o≤x.Lot.Qty:=(Qbq hx.good).2 (by rw[←hc];omega)
 have hcov:covH (setQ x (spQ x o))=cv (spQ x o) x.Price x.Cut:=cov_q hx.good ⟨q0,by omega⟩
 have hge:max 0 (covH x-o)≤cv (spQ x o) x.Price x.Cut:=(Qbq hx.good).1 (Int.le_refl _)
 have hle:cv (spQ x o) x.Price x.Cut≤covH x:=by rw[hc];exact cv_mono hx.good q1
 refine⟨q0,q1,hcov,?_,?_,fun hq => ?_,?_,fun hf => ?_⟩
 ·unfold spN;rw[hcov];omega
 ·unfold spN;rw[hcov];omega
 ·have hlt:¬ max 0 (covH x-o)≤cv (spQ x o-1) x.Price x.Cut:=fun k=>by
   have:=(Qbq hx.good).2 k
   have e:least (max 0 (covH x-o)) x.Price x.Cut=spQ x o:=rfl
   rw[e] at this
   omega
  have hb:=(cv_bd (q:=spQ x o-1) hx.good ⟨by omega,by omega⟩).1
  omega
 ·unfold leastS
  have e:least (max 0 (covH x-o)) x.Price x.Cut=spQ x o:=rfl
  rw[if_neg (by rw[hx.good];decide),if_neg (by omega),e,if_neg (by omega)]
 ·have e:spQ x o=x.Lot.Qty:=by omega
  unfold spN;rw[hcov,e,←hc];omega
theorem spare_l {R:List HI}(hR:∀x∈R,It x) (hl:R.length≤1000){Q:List zab→Prop}:∀(k:Nat)(o:Int)(acc:List zab),k≤R.length→acc.length+k≤1000→0≤o→o≤9223372036854775807→
  Q (acc++spF (R.take k).reverse o)→Qfc R Q Q o acc k:=by
 intro k
 induction k with
 |zero=>
  intro o acc hk ha h0 h1 q
  refine zcm_lr00 ?_
  exact Lf.i (by simpa[spF] using q)
 |succ k ih=>
  intro o acc hk ha h0 h1 q
  have hi:k<R.length:=by omega
  have hx:=hR R[k] (List.getElem_mem hi)
  have sp:=sp_ok hx h0
  have e:(R.take (k+1)).reverse=R[k]::(R.take k).reverse:=by
   rw[List.take_add_one,List.getElem?_eq_getElem hi];simp
  rw[e] at q
  simp only[spF] at q
  have cb:=cv_bd (q:=R[k].Lot.Qty) hx.good ⟨by have:=hx.pos;omega,hx.top⟩
  rw[←cov_self hx] at cb
  have sb:=cv_bd (q:=spQ R[k] o) hx.good ⟨sp.q0,by have:=sp.q1;have:=hx.top;omega⟩
  rw[←sp.cov] at sb
  have hq0:=sp.q0
  have hq1:=sp.q1
  have hn0:=sp.n0
  have hn1:=sp.n1
  have hp:=hx.pos
  have ht:=hx.top
  have eN:spN R[k] o=o-covH R[k]+covH (setQ R[k] (spQ R[k] o)):=rfl
  have hL:=Least_r (need:=max 0 (covH R[k]-o)) (p:=R[k].Price) (c:=R[k].Cut)
  rw[sp.ls] at hL
  have hC:=Qd5 (q:=spQ R[k] o) (p:=R[k].Price) (c:=R[k].Cut)
  have eC:(coverS (spQ R[k] o) R[k].Price R[k].Cut).1=covH (setQ R[k] (spQ R[k] o)):=rfl
  refine zcm_lr01 ⟨R[k],List.getElem?_eq_getElem hi,Br.neg (by omega) ⟨_,Qc4 _,Num.n (by omega) ⟨_,hL,_,hC,Br.i (fun c => ?_) (fun c => ?_)⟩⟩⟩
  ·have c:spQ R[k] o<R[k].Lot.Qty:=c
   rw[if_pos c] at q
   rw[eC]
   refine Num.n (by show -9223372036854775808≤R[k].Lot.Qty-spQ R[k] o∧_;omega) (App2.i (app24 (by simp;omega)) (Num.n (by omega) (Num.n (by omega) ?_)))
   have e2:o-(covH R[k]-covH (setQ R[k] (spQ R[k] o)))=spN R[k] o:=by rw[eN];omega
   rw[e2]
   exact ih _ _ (by omega) (by simp;omega) hn0 (by omega) (by rw[List.append_assoc];exact q)
  ·have c:¬ spQ R[k] o<R[k].Lot.Qty:=c
   rw[if_neg c,sp.full c] at q
   exact ih _ _ (by omega) (by omega) h0 h1 q
theorem spare_neg {R:List HI}{Q:List zab→Prop}{o:Int}(ho:o<0) (q:Q []):∀k:Nat,k≤R.length→Qfc R Q Q o [] k
 |0,_=>zcm_lr00 (Lf.i q)
 |k+1,hk=>zcm_lr01 ⟨R[k],List.getElem?_eq_getElem (by omega),Br.pos (by omega) (Lf.i q)⟩
theorem spF_len:∀(r:List HI)(o:Int),(spF r o).length≤r.length
 |[],_=>by simp[spF]
 |x::r,o=>by
  have:=spF_len r (spN x o)
  simp only[spF,List.length_append,List.length_cons]
  split<;>simp<;>omega
def slackS (l:List RI)(need:Int):Int×Int:=marS (sumW pT (l.map toH)) need
def spareL (l:List RI)(o:Int):List zab:=if o<0 then [] else spF (isort leE (l.map toH)).reverse o
def spareS (l:List RI)(need:Int):List zab×Int:=
 if wrongS l≠0 then([],wrongS l) else if (slackS l need).2≠0 then([],(slackS l need).2) else mergeG [] (spareL l (slackS l need).1)
theorem mem_rank {l:List RI}{x:HI}:x∈isort leE (l.map toH)↔x∈l.map toH:=(Qap (l.map toH)).mem_iff
theorem Spare_r {l:List RI}{need:Int}(hN:InK .i64 need):zcm_r (l.map toH) need (spareS l need):=by
 refine zcm_of ?_
 unfold zcm_w spareS
 refine⟨_,Check_r,Br.i (fun c=>Rt.i (by rw[if_pos c])) (fun c => ?_)⟩
 have c:=Decidable.not_not.1 c
 have g:=good_of c
 rw[if_neg (fun k=>k c)]
 have hlen:(l.map toH).length≤64:=by rw[List.length_map];exact g.len
 have hs:=g.sum
 refine⟨_,Margin_r (by omega) (by omega) hN,Br.i (fun c2=>Rt.i (by rw[if_pos (show(slackS l need).2≠0 from c2)];rfl)) (fun c2 => ?_)⟩
 have c2:=Decidable.not_not.1 c2
 have e2:(slackS l need).2=0:=c2
 rw[if_neg (fun k=>k e2)]
 have hl:(isort leE (l.map toH)).length≤64:=by rw[Qbb];exact hlen
 refine⟨_,Rank_r (by omega),Backward_ok _,zcm_rr0 Back_ok ?_⟩
 have hov:(slackS l need).1≤9223372036854775807:=by
  unfold slackS marS;split
  ·exact(by decide:(0:Int)≤9223372036854775807)
  ·rename_i k;show sumW pT (l.map toH)-need≤_;omega
 by_cases k:(slackS l need).1<0
 ·refine spare_neg k ⟨_,Merge_r (by simp),Rt.i ?_⟩ _ (Nat.le_refl _)
  unfold spareL;rw[if_pos k]
 ·refine spare_l (fun x hx=>g.it x (mem_rank.1 hx)) (by omega) _ _ [] (Nat.le_refl _) (by simp;omega) (by show 0≤(slackS l need).1;omega) hov ?_
  refine⟨_,Merge_r ?_,Rt.i ?_⟩
  ·rw[List.take_length,List.nil_append]
   have:=spF_len (isort leE (l.map toH)).reverse (slackS l need).1
   rw[List.length_reverse] at this
   show(spF (isort leE (l.map toH)).reverse (slackS l need).1).length≤_
   omega
  ·unfold spareL;rw[if_neg k,List.take_length,List.nil_append];rfl
end Go.Proofs.YtjlkmdmaimednaaGreat.Pure
