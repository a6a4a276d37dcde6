/- Texts put together. -/
import Derived.Test.YtjlkmdmaimednaaGreatAbX
import Derived.Test.YtjlkmdmaimednaaGreatRC
import Derived.Test.YtjlkmdmaimednaaGreatTBigB
import Derived.Test.YtjlkmdmaimednaaGreatTRankR
import Derived.Test.YtjlkmdmaimednaaGreatINC
import Derived.Test.YtjlkmdmaimednaaGreatRI
set_option linter.unusedVariables false
set_option linter.unusedSimpArgs false
namespace Go.Proofs.YtjlkmdmaimednaaGreat.Pure
open Go Go.Ab Go.Proofs.YtjlkmdmaimednaaGreat.R
theorem iok {n:Int}(h : -9223372036854775808≤n∧n≤9223372036854775807):InR n:=h
theorem New_1_r {a c:Int}(ha:InR a) (hc:InR c):zgh_r a c (mulDivS c a 1000000 1).1:=by
 refine zgh_of ?_
 unfold zgh_w
 exact⟨_,MulDiv_r hc ha (by decide),Rt.i rfl⟩
def newT (b:zat)(need:Int):zao:=⟨need,(mulDivS need b.Issuer 1000000 1).1,(mulDivS need b.Asset 1000000 1).1,GM.nil,GM.nil,0⟩
def newOk (b:zat)(need:Int):Prop:=0≤need∧need≤1125899906842624∧0≤b.Issuer∧b.Issuer≤1000000∧0≤b.Asset∧b.Asset≤1000000
theorem New_r1 {b:zat}{need:Int}(h:newOk b need):zdj_r1 b need (newT b need,0):=by
 obtain⟨h1,h2,h3,h4,h5,h6⟩:=h
 refine zdj_of1 ?_
 unfold zdj_w
 refine Br.neg (by omega) (Br.neg (by omega) (Br.neg (by omega) (Br.neg (by omega) (Br.neg (by omega) (Br.neg (by omega) ⟨_,New_1_r (iok (by omega)) (iok (by omega)),_,New_1_r (iok (by omega)) (iok (by omega)),Rt.i rfl⟩)))))
def room (t:zao)(a:zaf):Int:=max 0 (min (t.issuer-t.issuers.getD a.Issuer 0) (t.asset-t.assets.getD a.ISIN 0))
structure Tok (t:zao):Prop where
 need:0≤t.need∧t.need≤1125899906842624
 issuer:0≤t.issuer∧t.issuer≤1125899906842624
 asset:0≤t.asset∧t.asset≤1125899906842624
 issuers:∀k,0≤t.issuers.getD k 0∧t.issuers.getD k 0≤t.issuer
 assets:∀k,0≤t.assets.getD k 0∧t.assets.getD k 0≤t.asset
 sum : -4611686018427387904≤t.sum∧t.sum≤4611686018427387904
theorem TRoom_r {t:zao}{a:zaf}(h:Tok t):zeu_r t a (room t a):=by
 refine zeu_of ?_
 unfold zeu_w
 have:=h.issuers a.Issuer;have:=h.assets a.ISIN;have:=h.issuer;have:=h.asset
 exact⟨_,_,Look.i (Num.n (by omega) ⟨_,_,Look.i (Num.n (by omega) (Rt.i rfl))⟩)⟩
def putT (t:zao)(a:zaf)(n:Int):zao:=⟨t.need,t.issuer,t.asset,t.issuers.put a.Issuer (t.issuers.getD a.Issuer 0+n),t.assets.put a.ISIN (t.assets.getD a.ISIN 0+n),t.sum+n⟩
theorem Tput_r {t:zao}{a:zaf}{n:Int}(h:Tok t) (hn : -1125899906842624≤n∧n≤1125899906842624):zex_r t a n (putT t a n):=by
 refine zex_of ?_
 unfold zex_w
 have:=h.issuers a.Issuer;have:=h.assets a.ISIN;have:=h.issuer;have:=h.asset;have:=h.sum
 exact⟨_,_,Look.i (Num.n (by omega) ⟨_,Put.i ⟨_,_,Look.i (Num.n (by omega) ⟨_,Put.i (Num.n (by omega) (Rt.i rfl))⟩)⟩⟩)⟩
def addT (t:zao)(a:zaf)(n:Int):Int×zao:=if n<0 then(1,t) else if room t a<n then(24,t) else(0,putT t a n)
theorem Qd9 {t:zao}{a:zaf}(h:Tok t):0≤room t a∧room t a≤1125899906842624:=by
 have:=h.issuers a.Issuer;have:=h.assets a.ISIN;have:=h.issuer;have:=h.asset
 unfold room;omega
theorem TAdd_r {t:zao}{a:zaf}{n:Int}(h:Tok t):zes_r t a n (addT t a n):=by
 refine zes_of ?_
 unfold zes_w addT
 have hr:=Qd9 (a:=a) h
 refine Br.i (fun c=>Rt.i (by rw[if_pos c])) (fun c => ?_)
 refine⟨_,TRoom_r h,Br.i (fun c1=>Rt.i (by rw[if_neg c,if_pos c1])) (fun c1=>⟨_,Tput_r h (by omega),Rt.i (by rw[if_neg c,if_neg c1])⟩)⟩
def openT (t:zao):Int:=max 0 (t.need-t.sum)
theorem TOpen_r {t:zao}(h:Tok t):zfb_r t (openT t):=by
 refine zfb_of ?_
 unfold zfb_w
 have:=h.need;have:=h.sum
 exact Num.n (by omega) (Rt.i rfl)
theorem getL_put {κ ν:Type} [DecidableEq κ] {k:κ}{v:ν}{c:Nat}(q:κ):∀l:List (κ×Nat×ν),getL q (putL k v c l)=if q=k then some v else getL q l
 |[]=>by simp only[putL,getL]
 |x::l=>by
  simp only[putL]
  split
  ·rename_i h
   simp only[getL]
   by_cases hq:q=k
   ·simp[hq]
   ·have:¬ q=x.1:=fun e=>hq (by rw[e,h])
    rw[if_neg hq,if_neg hq,if_neg this]
  ·rename_i h
   simp only[getL]
   rw[getL_put q l]
   by_cases hq:q=k
   ·subst hq;rw[if_neg h];simp
   ·simp[hq]
theorem Qba {κ ν:Type} [DecidableEq κ] {m:GM κ ν}{k:κ}{v z:ν}(q:κ):(m.put k v).getD q z=if q=k then v else m.getD q z:=by
 unfold GM.getD GM.put GM.get?
 show(getL q (putL k v m.clock m.es)).getD z=_
 rw[getL_put];split<;>rfl
theorem Tok_put {t:zao}{a:zaf}{n:Int}(h:Tok t) (h0:0≤n) (h1:n≤room t a) (hs:t.sum+n≤4611686018427387904):Tok (putT t a n):=by
 have:=h.issuers a.Issuer;have:=h.assets a.ISIN;have:=h.issuer;have:=h.asset
 unfold room at h1
 refine⟨h.need,h.issuer,h.asset,fun k => ?_,fun k => ?_,?_⟩
 ·simp only[putT,Qba]
  split
  ·omega
  ·exact h.issuers k
 ·simp only[putT,Qba]
  split
  ·omega
  ·exact h.assets k
 ·simp only[putT];have:=h.sum;omega
end Go.Proofs.YtjlkmdmaimednaaGreat.Pure
namespace Go.Proofs.YtjlkmdmaimednaaGreat.Pure
open Go Go.Ab Go.Proofs.YtjlkmdmaimednaaGreat.R
theorem mulDiv_ok (a b c:Int):0≤a→0≤b→0≤c→0≤(mulDivS a b c 1).1∧(mulDivS a b c 1).1≤9223372036854775807∧((mulDivS a b c 1).2≠0→(mulDivS a b c 1).1=0):=by
 intro ha hb hc
 unfold mulDivS
 by_cases h:c=0∨(1:Int)<1∨(4:Int)<1
 ·rw[if_pos h];exact⟨by decide,by decide,fun _=>rfl⟩
 ·rw[if_neg h]
  have m:minusOf a b c=false:=by unfold minusOf;rw[decide_eq_false (by omega),decide_eq_false (by omega),decide_eq_false (by omega)];rfl
  simp only[m]
  have u:∀q r d,upOf false q r d 1=false:=by intro q r d;unfold upOf;simp
  rw[u]
  simp only[Bool.false_eq_true,if_false,Int.add_zero]
  have q0:0≤((a.natAbs:Int)*b.natAbs)/(c.natAbs:Int):=Int.ediv_nonneg (Int.mul_nonneg (by omega) (by omega)) (by omega)
  generalize ((a.natAbs:Int)*b.natAbs)/(c.natAbs:Int)=q at q0 ⊢
  unfold signOf
  split
  ·exact⟨by decide,by decide,fun _=>rfl⟩
  ·rename_i hq
   simp only[Bool.false_eq_true,if_false]
   exact⟨q0,by simp at hq;omega,fun h=>absurd rfl h⟩
def worthS (q p:Int):Int×Int:=if q<0 then(0,1) else if 1125899906842624<q then(0,1) else if p<1 then(0,1) else if 4294967296<p then(0,1) else mulDivS q p 1000000 1
theorem worth_ok (q p:Int):0≤(worthS q p).1∧(worthS q p).1≤9223372036854775807∧((worthS q p).2≠0→(worthS q p).1=0):=by
 unfold worthS
 split
 ·exact⟨by decide,by decide,fun _=>rfl⟩
 split
 ·exact⟨by decide,by decide,fun _=>rfl⟩
 split
 ·exact⟨by decide,by decide,fun _=>rfl⟩
 split
 ·exact⟨by decide,by decide,fun _=>rfl⟩
 ·exact mulDiv_ok _ _ _ (by omega) (by omega) (by decide)
theorem Worth_r {q p:Int}:zfu_r q p (worthS q p):=by
 refine zfu_of ?_
 unfold zfu_w worthS
 refine Br.i (fun c=>Rt.i (by rw[if_pos c])) (fun c1=>Br.i (fun c=>Rt.i (by rw[if_neg c1,if_pos c])) (fun c2=>Br.i (fun c=>Rt.i (by rw[if_neg c1,if_neg c2,if_pos c])) (fun c3=>Br.i (fun c=>Rt.i (by rw[if_neg c1,if_neg c2,if_neg c3,if_pos c])) (fun c4 => ?_))))
 exact⟨_,MulDiv_r (iok (by omega)) (iok (by omega)) (by decide),Rt.i (by rw[if_neg c1,if_neg c2,if_neg c3,if_neg c4])⟩
theorem RWorth_r {q p:Int}:zdx_r q p (worthS q p):=by
 refine zdx_of ?_
 unfold zdx_w worthS
 refine Br.i (fun c=>Rt.i (by rw[if_pos c])) (fun c1=>Br.i (fun c=>Rt.i (by rw[if_neg c1,if_pos c])) (fun c2=>Br.i (fun c=>Rt.i (by rw[if_neg c1,if_neg c2,if_pos c])) (fun c3=>Br.i (fun c=>Rt.i (by rw[if_neg c1,if_neg c2,if_neg c3,if_pos c])) (fun c4 => ?_))))
 exact⟨_,Qef (iok (by omega)) (iok (by omega)) (by decide),Rt.i (by rw[if_neg c1,if_neg c2,if_neg c3,if_neg c4])⟩
def goodS (p c:Int):Bool:=decide (p≥1)&&(decide (p≤4294967296)&&(decide (c≥0)&&decide (c<1000000)))
theorem good_r {p c:Int}:zfj_r p c (goodS p c):=by
 refine zfj_of ?_
 unfold zfj_w goodS
 refine Br.i (fun c1=>Br.i (fun c2=>Br.i (fun c3=>Rt.i ?_) (fun c3=>Rt.i ?_)) (fun c2=>Rt.i ?_)) (fun c1=>Rt.i ?_)
 ·rw[decide_eq_true c1,decide_eq_true c2,decide_eq_true c3];rfl
 ·rw[decide_eq_true c1,decide_eq_true c2,decide_eq_false c3];rfl
 ·rw[decide_eq_true c1,decide_eq_false c2];rfl
 ·rw[decide_eq_false c1];rfl
theorem Rgood_r {p c:Int}:zen_r p c (goodS p c):=by
 refine zen_of ?_
 unfold zen_w goodS
 refine Br.i (fun c1=>Br.i (fun c2=>Br.i (fun c3=>Rt.i ?_) (fun c3=>Rt.i ?_)) (fun c2=>Rt.i ?_)) (fun c1=>Rt.i ?_)
 ·rw[decide_eq_true c1,decide_eq_true c2,decide_eq_true c3];rfl
 ·rw[decide_eq_true c1,decide_eq_true c2,decide_eq_false c3];rfl
 ·rw[decide_eq_true c1,decide_eq_false c2];rfl
 ·rw[decide_eq_false c1];rfl
def coverS (q p c:Int):Int×Int:=if goodS p c=false then(0,1) else if (worthS q p).2≠0 then(0,(worthS q p).2) else mulDivS (worthS q p).1 (1000000-c) 1000000 1
theorem cover_ok (q p c:Int):0≤(coverS q p c).1∧(coverS q p c).1≤9223372036854775807∧((coverS q p c).2≠0→(coverS q p c).1=0):=by
 unfold coverS
 split
 ·exact⟨by decide,by decide,fun _=>rfl⟩
 split
 ·exact⟨Int.le_refl 0,(by decide:(0:Int)≤9223372036854775807),fun _=>rfl⟩
 ·rename_i h _
  have g:0≤c∧c<1000000:=by
   unfold goodS at h;simp at h;omega
  exact mulDiv_ok _ _ _ (worth_ok q p).1 (by omega) (by decide)
theorem goodS_c {p c:Int}(h:¬ goodS p c=false):0≤c∧c<1000000:=by unfold goodS at h;simp at h;omega
theorem Qd5 {q p c:Int}:Qf7 q p c (coverS q p c):=by
 refine zei_of ?_
 unfold zei_w
 have w:=worth_ok q p
 refine⟨_,good_r,Br.b (fun h=>Rt.i ?_) (fun h => ?_)⟩
 ·unfold coverS;rw[if_pos (by simpa using h)]
 ·have h':¬ goodS p c=false:=by simpa using h
  have g:=goodS_c h'
  refine⟨_,Worth_r,Br.i (fun c1=>Rt.i ?_) (fun c1=>Num.n (by omega) ⟨_,MulDiv_r (iok (by omega)) (iok (by omega)) (by decide),Rt.i ?_⟩)⟩
  ·unfold coverS;rw[if_neg h',if_pos c1]
  ·unfold coverS;rw[if_neg h',if_neg c1]
theorem RCover_r {q p c:Int}:zeg_r q p c (coverS q p c):=by
 refine zeg_of ?_
 unfold zeg_w
 have w:=worth_ok q p
 refine⟨_,Rgood_r,Br.b (fun h=>Rt.i ?_) (fun h => ?_)⟩
 ·unfold coverS;rw[if_pos (by simpa using h)]
 ·have h':¬ goodS p c=false:=by simpa using h
  have g:=goodS_c h'
  refine⟨_,RWorth_r,Br.i (fun c1=>Rt.i ?_) (fun c1=>Num.n (by omega) ⟨_,Qef (iok (by omega)) (iok (by omega)) (by decide),Rt.i ?_⟩)⟩
  ·unfold coverS;rw[if_neg h',if_pos c1]
  ·unfold coverS;rw[if_neg h',if_neg c1]
def covC (x:zag):Int:=(coverS x.Lot.Qty x.Price x.Cut).1
theorem covC_ok (x:zag):0≤covC x∧covC x≤9223372036854775807:=⟨(cover_ok _ _ _).1,(cover_ok _ _ _).2.1⟩
theorem Qgh (x:zag):Qfp (toH x) (covC x):=by
 refine zcw_of ?_
 unfold zcw_w
 refine⟨_,Qd5,Br.i (fun c=>Rt.i ?_) (fun c=>Rt.i rfl)⟩
 exact((cover_ok _ _ _).2.2 c).symm
theorem RCovers_r (x:zag):zda_r x (covC x):=by
 refine zda_of ?_
 unfold zda_w
 exact⟨_,RCover_r,Rt.i rfl⟩
theorem New_r0 {b:zat}{need:Int}(h:¬ newOk b need):zdj_r0 b need 1:=by
 refine zdj_of0 ?_
 unfold zdj_w
 refine Br.i (fun c=>Rt.i rfl) (fun c1=>Br.i (fun c=>Rt.i rfl) (fun c2=>Br.i (fun c=>Rt.i rfl) (fun c3=>Br.i (fun c=>Rt.i rfl) (fun c4=>Br.i (fun c=>Rt.i rfl) (fun c5=>Br.i (fun c=>Rt.i rfl) (fun c6=>absurd ?_ h))))))
 unfold newOk;omega
theorem mulDiv1 {a b:Int}(ha:0≤a) (hb:0≤b) (h:a*b/1000000≤9223372036854775807):mulDivS a b 1000000 1=(a*b/1000000,0):=by
 unfold mulDivS
 rw[if_neg (by omega)]
 have m:minusOf a b 1000000=false:=by unfold minusOf;rw[decide_eq_false (by omega),decide_eq_false (by omega)];rfl
 have u:∀q r d,upOf false q r d 1=false:=by intro q r d;unfold upOf;simp
 simp only[m,u,Bool.false_eq_true,if_false,Int.add_zero]
 rw[show(a.natAbs:Int)=a by omega,show(b.natAbs:Int)=b by omega,show(((1000000:Int).natAbs:Nat):Int)=1000000 from rfl]
 unfold signOf
 rw[if_neg (by omega)]
 rfl
def cdiv (a b:Int):Int:=(a+b-1)/b
theorem cdiv_le {a b x:Int}(hb:0<b):cdiv a b≤x↔a≤x*b:=by
 unfold cdiv
 constructor
 ·intro h
  have h1:(a+b-1)/b<x+1:=by omega
  have h2:=(Int.ediv_lt_iff_lt_mul hb).1 h1
  rw[Int.add_mul,Int.one_mul] at h2
  omega
 ·intro h
  have h2:a+b-1<(x+1)*b:=by rw[Int.add_mul,Int.one_mul];omega
  have:=(Int.ediv_lt_iff_lt_mul hb).2 h2
  omega
theorem cdiv_nn {a b:Int}(ha:0≤a) (hb:0<b):0≤cdiv a b:=Int.ediv_nonneg (by omega) (by omega)
theorem le_div {a b x:Int}(hb:0<b):x≤a/b↔x*b≤a:=Int.le_ediv_iff_mul_le hb
def cv (q p c:Int):Int:=q*p/1000000*(1000000-c)/1000000
theorem goodS_p {p c:Int}(h:goodS p c=true):1≤p∧p≤4294967296∧0≤c∧c<1000000:=by unfold goodS at h;simp at h;omega
theorem worth_bd {q p:Int}(h:1≤p∧p≤4294967296) (hq:0≤q∧q≤1125899906842624):0≤q*p/1000000∧q*p/1000000≤4835703278458516699:=by
 have h1:q*p≤1125899906842624*4294967296:=Int.mul_le_mul hq.2 h.2 (by omega) (by omega)
 have h2:0≤q*p:=Int.mul_nonneg hq.1 (by omega)
 omega
theorem cv_bd {q p c:Int}(h:goodS p c=true) (hq:0≤q∧q≤1125899906842624):0≤cv q p c∧cv q p c≤4835703278458516699:=by
 obtain⟨h1,h2,h3,h4⟩:=goodS_p h
 obtain⟨w1,w2⟩:=worth_bd ⟨h1,h2⟩ hq
 unfold cv
 generalize q*p/1000000=v at w1 w2 ⊢
 have a1:0≤v*(1000000-c):=Int.mul_nonneg w1 (by omega)
 have a2:v*(1000000-c)≤v*1000000:=Int.mul_le_mul_of_nonneg_left (by omega) w1
 omega
theorem Qcs {q p c:Int}(h:goodS p c=true) (hq:0≤q∧q≤1125899906842624):coverS q p c=(cv q p c,0):=by
 obtain⟨h1,h2,h3,h4⟩:=goodS_p h
 obtain⟨w1,w2⟩:=worth_bd ⟨h1,h2⟩ hq
 have hw:worthS q p=(q*p/1000000,0):=by
  unfold worthS
  rw[if_neg (by omega),if_neg (by omega),if_neg (by omega),if_neg (by omega)]
  exact mulDiv1 hq.1 (by omega) (by omega)
 obtain⟨c1,c2⟩:=cv_bd h hq
 unfold coverS
 rw[if_neg (by rw[h];decide),hw,if_neg (fun h=>h rfl)]
 unfold cv at c1 c2 ⊢
 show mulDivS (q*p/1000000) (1000000-c) 1000000 1=_
 exact mulDiv1 w1 (by omega) (by omega)
def least (need p c:Int):Int:=cdiv (cdiv (need*1000000) (1000000-c)*1000000) p
theorem Qbq {need p c q:Int}(h:goodS p c=true):least need p c≤q↔need≤cv q p c:=by
 obtain⟨h1,h2,h3,h4⟩:=goodS_p h
 unfold least cv
 rw[cdiv_le (by omega),le_div (by decide),←cdiv_le (a:=need*1000000) (b:=1000000-c) (by omega),le_div (by decide)]
theorem least_nn {need p c:Int}(h:goodS p c=true) (hn:0≤need):0≤least need p c:=by
 obtain⟨h1,h2,h3,h4⟩:=goodS_p h
 unfold least
 exact cdiv_nn (Int.mul_nonneg (cdiv_nn (Int.mul_nonneg hn (by decide)) (by omega)) (by decide)) (by omega)
def leastS (need p c:Int):Int×Bool:=if goodS p c=false then(0,false) else if need<0 then(0,false) else if 1125899906842624<least need p c then(0,false) else(least need p c,true)
theorem least_l {need p c:Int}(h:goodS p c=true) (hn:0≤need){Q:Int→Prop}(q:Q (least need p c)):∀(n:Nat)(lo hi:Int),hi-lo≤n→0≤lo→lo≤least need p c→least need p c≤hi→hi≤1125899906842624→zcv_L0 need p c Q hi lo:=by
 intro n
 induction n with
 |zero=>
  intro lo hi hd h0 h1 h2 h3
  have e:lo=least need p c:=by omega
  refine zcv_l0 ?_
  unfold zcv_w0
  exact Br.neg (by omega) (Lf.i (by rw[e];exact q))
 |succ n ih=>
  intro lo hi hd h0 h1 h2 h3
  refine zcv_l0 ?_
  unfold zcv_w0
  by_cases c0:lo<hi
  ·refine Br.pos c0 (Num.n (by omega) (Quo'.i ⟨by omega,by decide,by simp[IntKind.max,IntKind.signed,IntKind.bits];omega⟩ ⟨_,Qd5,?_⟩))
   rw[Qcs h (by omega)]
   refine Br.i (fun c1 => ?_) (fun c1=>Num.n (by omega) ?_)
   ·have:=(Qbq h).2 c1
    exact ih _ _ (by omega) h0 h1 this (by omega)
   ·have:¬ least need p c≤(lo+hi)/2:=fun h5=>c1 ((Qbq h).1 h5)
    exact ih _ _ (by omega) (by omega) (by omega) h2 h3
  ·have e:lo=least need p c:=by omega
   exact Br.neg c0 (Lf.i (by rw[e];exact q))
theorem Least_r {need p c:Int}:zcv_r need p c (leastS need p c):=by
 refine zcv_of ?_
 unfold zcv_w leastS
 refine⟨_,good_r,?_⟩
 cases hg:goodS p c with
 |false=>exact Br.t rfl (Rt.i (by simp))
 |true=>
  refine Br.f rfl (Br.i (fun c1=>Rt.i (by simp[c1])) (fun c1=>⟨_,Qd5,?_⟩))
  rw[Qcs hg (by omega)]
  refine Br.i (fun c2=>Rt.i ?_) (fun c2 => ?_)
  ·have:¬ least need p c≤1125899906842624:=fun h=>by have:=(Qbq hg).1 h;simp at c2;omega
   rw[if_neg (by simp),if_neg c1,if_pos (by omega)]
  ·have:=(Qbq hg).2 (show need≤cv 1125899906842624 p c by simp at c2;omega)
   refine least_l hg (by omega) (Rt.i ?_) 1125899906842624 _ _ (by omega) (by omega) (least_nn hg (by omega)) this (by omega)
   rw[if_neg (by simp),if_neg c1,if_neg (by omega)]
def mostS (limit p c qty:Int):Int:=if goodS p c=false then -1 else if limit<0 then -1 else if qty<0 then -1 else if 1125899906842624<qty then -1 else if qty<least (limit+1) p c then qty else least (limit+1) p c-1
theorem Qd6 {limit p c q:Int}(h:goodS p c=true):q<least (limit+1) p c↔cv q p c≤limit:=by
 have:=Qbq (need:=limit+1) (q:=q) h
 omega
theorem least_pos {limit p c:Int}(h:goodS p c=true) (hl:0≤limit):0<least (limit+1) p c:=by
 refine(Qd6 h).2 ?_
 unfold cv;simp;exact hl
theorem most_l {limit p c:Int}(h:goodS p c=true) (hl:0≤limit){Q:Int→Prop}{qty r:Int}(hr:r=if qty<least (limit+1) p c then qty else least (limit+1) p c-1) (hq:0≤qty∧qty≤1125899906842624) (q:Q r):
  ∀(n:Nat)(lo hi:Int),hi-lo≤n→0≤lo→lo≤r→r≤hi→hi≤qty→zcu_L0 limit p c Q lo hi:=by
 intro n
 induction n with
 |zero=>
  intro lo hi hd h0 h1 h2 h3
  have e:lo=r:=by omega
  refine zcu_l0 ?_
  unfold zcu_w0
  exact Br.neg (by omega) (Lf.i (by rw[e];exact q))
 |succ n ih=>
  intro lo hi hd h0 h1 h2 h3
  refine zcu_l0 ?_
  unfold zcu_w0
  by_cases c0:lo<hi
  ·refine Br.pos c0 (Num.n (by omega) (Num.n (by omega) (Quo'.i ⟨by omega,by decide,by simp[IntKind.max,IntKind.signed,IntKind.bits];omega⟩ ⟨_,Qd5,?_⟩)))
   rw[Qcs h (by omega)]
   refine Br.i (fun c1 => ?_) (fun c1=>Num.n (by omega) ?_)
   ·have:=(Qd6 h).2 c1
    refine ih _ _ (by omega) (by omega) ?_ h2 h3
    rw[hr];split<;>omega
   ·have:¬ (lo+hi+1)/2<least (limit+1) p c:=fun h5=>c1 ((Qd6 h).1 h5)
    refine ih _ _ (by omega) h0 h1 ?_ (by omega)
    rw[hr];split<;>omega
  ·have e:lo=r:=by omega
   exact Br.neg c0 (Lf.i (by rw[e];exact q))
theorem Most_r {limit p c qty:Int}:zcu_r limit p c qty (mostS limit p c qty):=by
 refine zcu_of ?_
 unfold zcu_w mostS
 refine⟨_,good_r,?_⟩
 cases hg:goodS p c with
 |false=>exact Br.t rfl (Rt.i (by simp))
 |true=>
  refine Br.f rfl (Br.i (fun c1=>Rt.i (by simp[c1])) (fun c1=>Br.i (fun c2=>Rt.i (by simp[c1,c2])) (fun c2=>Br.i (fun c3=>Rt.i ?_) (fun c3 => ?_))))
  ·rw[if_neg (by simp),if_neg c1,if_neg c2,if_pos (by omega)]
  ·have lp:=least_pos (c:=c) hg (show 0≤limit by omega)
   refine most_l hg (by omega) rfl ⟨by omega,by omega⟩ (Rt.i ?_) 1125899906842624 _ _ (by omega) (by omega) (by split<;>omega) (by split<;>omega) (Int.le_refl _)
   rw[if_neg (by simp),if_neg c1,if_neg c2,if_neg (by omega)]
end Go.Proofs.YtjlkmdmaimednaaGreat.Pure
namespace Go.Proofs.YtjlkmdmaimednaaGreat.Pure
open Go Go.Ab Go.Proofs.YtjlkmdmaimednaaGreat.R
def sumL:List zap→Int
 |[]=>0
 |p::l=>p.Cover+sumL l
theorem sumL_app (l:List zap) (p:zap):sumL (l++[p])=sumL l+p.Cover:=by
 induction l with
 |nil=>simp[sumL]
 |cons q l ih=>simp only[List.cons_append,sumL,ih];omega
def Small (l:List zap):Prop:=∀p∈l, -1125899906842624≤p.Cover∧p.Cover≤1125899906842624
def ofI (k:Int):List zap→Int
 |[]=>0
 |p::l=>(if p.Issuer=k then p.Cover else 0)+ofI k l
theorem ofI_app (k:Int) (l:List zap) (p:zap):ofI k (l++[p])=ofI k l+(if p.Issuer=k then p.Cover else 0):=by
 induction l with
 |nil=>simp[ofI]
 |cons q l ih=>simp only[List.cons_append,ofI,ih];omega
theorem ofI_none {k:Int}:∀{l:List zap},k∉l.map (·.Issuer)→ofI k l=0
 |[],_=>rfl
 |p::l,h=>by
  simp only[List.map_cons,List.mem_cons,not_or] at h
  simp only[ofI];rw[if_neg (fun e=>h.1 e.symm),ofI_none h.2];rfl
theorem ofI_l {r:zal}{k:Int}{Q:Int→Prop}(hb:Small r.L) (hl:r.L.length≤1000):∀(n s:Nat)(acc:Int),n+s=r.L.length → -(s*1125899906842624)≤acc→acc≤s*1125899906842624→Q (acc+ofI k (r.L.drop s))→zbd_L0 k r Q acc (s:Int):=by
 intro n
 induction n with
 |zero=>
  intro s acc h _ _ q
  refine zbd_l0 ?_
  unfold zbd_w0
  rw[Qab]
  refine Br.neg (by omega) (Lf.i ?_)
  rw[List.drop_of_length_le (by omega)] at q
  simpa[ofI] using q
 |succ n ih=>
  intro s acc h h0 h1 q
  have hs:s<r.L.length:=by omega
  refine zbd_l0 ?_
  unfold zbd_w0
  rw[Qab]
  rw[List.drop_eq_getElem_cons hs] at q
  have hm:=hb _ (List.getElem_mem hs)
  have g:r.L[(s:Int).toNat]? = some r.L[s]:=by simp[hs]
  refine Br.pos (by omega) ⟨r.L[s],Got.i (Br.i (fun c=>Got.i (Num.n (by omega) (Num.n (by omega) ?_)) (by omega) g) (fun c=>Num.n (by omega) ?_)) (by omega) g⟩
  ·simp only[ofI] at q
   rw[if_pos c,←Int.add_assoc] at q
   exact ih (s+1) _ (by omega) (by omega) (by omega) q
  ·simp only[ofI] at q
   rw[if_neg c,Int.zero_add] at q
   exact ih (s+1) _ (by omega) (by omega) (by omega) q
theorem ROfI_r {r:zal}{k:Int}(hb:Small r.L) (hl:r.L.length≤1000):zbd_r r k (ofI k r.L):=by
 refine zbd_of ?_
 unfold zbd_w
 exact ofI_l hb hl _ 0 0 rfl (by omega) (by omega) (Rt.i (by simp))
def ofA (k:ByteArray):List zap→Int
 |[]=>0
 |p::l=>(if p.ISIN=k then p.Cover else 0)+ofA k l
theorem ofA_app (k:ByteArray) (l:List zap) (p:zap):ofA k (l++[p])=ofA k l+(if p.ISIN=k then p.Cover else 0):=by
 induction l with
 |nil=>simp[ofA]
 |cons q l ih=>simp only[List.cons_append,ofA,ih];omega
theorem ofA_none {k:ByteArray}:∀{l:List zap},k∉l.map (·.ISIN)→ofA k l=0
 |[],_=>rfl
 |p::l,h=>by
  simp only[List.map_cons,List.mem_cons,not_or] at h
  simp only[ofA];rw[if_neg (fun e=>h.1 e.symm),ofA_none h.2];rfl
theorem ofA_l {r:zal}{k:ByteArray}{Q:Int→Prop}(hb:Small r.L) (hl:r.L.length≤1000):∀(n s:Nat)(acc:Int),n+s=r.L.length → -(s*1125899906842624)≤acc→acc≤s*1125899906842624→Q (acc+ofA k (r.L.drop s))→zbe_L0 k r Q acc (s:Int):=by
 intro n
 induction n with
 |zero=>
  intro s acc h _ _ q
  refine zbe_l0 ?_
  unfold zbe_w0
  rw[Qab]
  refine Br.neg (by omega) (Lf.i ?_)
  rw[List.drop_of_length_le (by omega)] at q
  simpa[ofA] using q
 |succ n ih=>
  intro s acc h h0 h1 q
  have hs:s<r.L.length:=by omega
  refine zbe_l0 ?_
  unfold zbe_w0
  rw[Qab]
  rw[List.drop_eq_getElem_cons hs] at q
  have hm:=hb _ (List.getElem_mem hs)
  have g:r.L[(s:Int).toNat]? = some r.L[s]:=by simp[hs]
  refine Br.pos (by omega) ⟨r.L[s],Got.i (Br.i (fun c=>Got.i (Num.n (by omega) (Num.n (by omega) ?_)) (by omega) g) (fun c=>Num.n (by omega) ?_)) (by omega) g⟩
  ·simp only[ofA] at q
   rw[if_pos c,←Int.add_assoc] at q
   exact ih (s+1) _ (by omega) (by omega) (by omega) q
  ·simp only[ofA] at q
   rw[if_neg c,Int.zero_add] at q
   exact ih (s+1) _ (by omega) (by omega) (by omega) q
theorem ROfA_r {r:zal}{k:ByteArray}(hb:Small r.L) (hl:r.L.length≤1000):zbe_r r k (ofA k r.L):=by
 refine zbe_of ?_
 unfold zbe_w
 exact ofA_l hb hl _ 0 0 rfl (by omega) (by omega) (Rt.i (by simp))
structure Al (r:zal) (t:zao) (n:Nat):Prop where
 tok:Tok t
 need:r.Need=t.need
 issuer:r.Issuer=t.issuer
 asset:r.Asset=t.asset
 i:∀k,ofI k r.L=t.issuers.getD k 0
 a:∀k,ofA k r.L=t.assets.getD k 0
 s:sumL r.L=t.sum
 len:r.L.length≤n
 bd:Small r.L
 s0:0≤t.sum∧t.sum≤n*1125899906842624
def withR (r:zal)(a:zaf)(c:Int):zal:=⟨r.Need,r.Issuer,r.Asset,r.L++[⟨a.Issuer,a.ISIN,c⟩]⟩
theorem app32 {n:Nat}(h:n≤3000000):App 32 n:=⟨by unfold maxLen;omega,by omega⟩
theorem RWith_r {r:zal}{a:zaf}{c:Int}(h:r.L.length≤1000):zdn_r r a c (withR r a c):=by
 refine zdn_of ?_
 unfold zdn_w
 exact ApZ.i (app32 (by omega)) (App2.i (app32 (by simp;omega)) (Rt.i rfl))
theorem TAdd_ok {t:zao}{a:zaf}{c:Int}(h:Tok t) (h0:0≤c) (h1:c≤room t a):zes_r t a c (0,putT t a c):=by
 have:=TAdd_r (n:=c) (a:=a) h
 unfold addT at this
 rw[if_neg (by omega),if_neg (by omega)] at this
 exact this
theorem Al_put {r:zal}{t:zao}{n:Nat}{a:zaf}{c:Int}(h:Al r t n) (hn:n≤1000) (h0:0≤c) (h1:c≤room t a):Al (withR r a c) (putT t a c) (n+1):=by
 have rl:=Qd9 (a:=a) h.tok
 have hs:=h.s0
 refine⟨Tok_put h.tok h0 h1 (by omega),h.need,h.issuer,h.asset,fun k => ?_,fun k => ?_,?_,by have:=h.len;simp[withR];omega,?_,by simp only[putT];omega⟩
 ·simp only[withR,putT,ofI_app,Qba,h.i]
  by_cases e:a.Issuer=k
  ·subst e;simp
  ·rw[if_neg e,if_neg (fun x=>e x.symm)];omega
 ·simp only[withR,putT,ofA_app,Qba,h.a]
  by_cases e:a.ISIN=k
  ·subst e;simp
  ·rw[if_neg e,if_neg (fun x=>e x.symm)];omega
 ·simp only[withR,putT,sumL_app,h.s]
 ·intro p hp
  simp only[withR,List.mem_append,List.mem_singleton] at hp
  rcases hp with hp|hp
  ·exact h.bd p hp
  ·subst hp;simp;omega
theorem TSum_r {t:zao}:zfq_r t t.sum:=zfq_of (Rt.i rfl)
theorem share_bd {a b:Int}(h0:0≤a) (h1:a≤1125899906842624) (b0:0≤b) (b1:b≤1000000):mulDivS a b 1000000 1=(a*b/1000000,0)∧0≤a*b/1000000∧a*b/1000000≤1125899906842624:=by
 have e1:0≤a*b:=Int.mul_nonneg h0 b0
 have e2:a*b≤a*1000000:=Int.mul_le_mul_of_nonneg_left b1 h0
 refine⟨mulDiv1 h0 b0 (by omega),by omega,by omega⟩
theorem Tok_new {b:zat}{need:Int}(h:newOk b need):Tok (newT b need):=by
 obtain⟨h1,h2,h3,h4,h5,h6⟩:=h
 obtain⟨e1,e2,e3⟩:=share_bd h1 h2 h3 h4
 obtain⟨f1,f2,f3⟩:=share_bd h1 h2 h5 h6
 refine⟨⟨h1,h2⟩,?_,?_,fun k => ?_,fun k => ?_,by simp[newT]⟩
 ·show 0≤(mulDivS need b.Issuer 1000000 1).1∧(mulDivS need b.Issuer 1000000 1).1≤1125899906842624
  rw[e1];exact⟨e2,e3⟩
 ·show 0≤(mulDivS need b.Asset 1000000 1).1∧(mulDivS need b.Asset 1000000 1).1≤1125899906842624
  rw[f1];exact⟨f2,f3⟩
 ·show 0≤(0:Int)∧(0:Int)≤(mulDivS need b.Issuer 1000000 1).1
  rw[e1];exact⟨Int.le_refl _,e2⟩
 ·show 0≤(0:Int)∧(0:Int)≤(mulDivS need b.Asset 1000000 1).1
  rw[f1];exact⟨Int.le_refl _,f2⟩
def newR (b:zat)(need:Int):zal:=⟨need,(mulDivS need b.Issuer 1000000 1).1,(mulDivS need b.Asset 1000000 1).1,[]⟩
theorem Al_new {b:zat}{need:Int}(h:newOk b need):Al (newR b need) (newT b need) 0:=
 ⟨Tok_new h,rfl,rfl,rfl,fun _=>rfl,fun _=>rfl,rfl,by simp[newR],(fun p hp=>by simp[newR] at hp),by simp[newT]⟩
theorem RNew_r {b:zat}{need:Int}(h:newOk b need):zdq_r b need (newR b need,0):=by
 obtain⟨h1,h2,h3,h4,h5,h6⟩:=h
 refine zdq_of ?_
 unfold zdq_w
 refine Br.neg (by omega) (Br.neg (by omega) (Br.neg (by omega) (Br.neg (by omega) (Br.neg (by omega) (Br.neg (by omega) ⟨_,Qef (iok (by omega)) (iok (by omega)) (iok (by omega)),_,Qef (iok (by omega)) (iok (by omega)) (iok (by omega)),Rt.i rfl⟩)))))
end Go.Proofs.YtjlkmdmaimednaaGreat.Pure
namespace Go.Proofs.YtjlkmdmaimednaaGreat.Pure
open Go Go.Ab Go.Proofs.YtjlkmdmaimednaaGreat.R
theorem app24 {n:Nat}(h:n≤3000000):App 24 n:=⟨by unfold maxLen;omega,by omega⟩
theorem Insert_r {a:List zab}{x:zab}{n:Nat}(h1:n≤a.length) (hb:a.length≤1000000):InsR Tryz.prog 141 2 zab.enc a (n:Int) [x] (a.take n++x::a.drop n):=by
 by_cases h:n<a.length
 ·have:=Con_insert_lt (rows:=a.map zab.enc) (x:=zab.enc x) (i:=n) (by simpa using h) (by simp;omega) (enters_of Tryz.func141 (by kernel_rfl) rfl)
  unfold InsR
  rw[show(a.take n++x::a.drop n).map zab.enc=(a.map zab.enc).take n++[zab.enc x]++(a.map zab.enc).drop n by simp[List.map_take,List.map_drop]]
  exact this
 ·have e:n=a.length:=by omega
  subst e
  have:zcy_r a (a.length:Int) [x] (a++[x]):=by
   refine zcy_of ?_
   unfold zcy_w
   exact CutX.i ⟨by omega,by omega⟩ (Br.neg (by simp[lenM]) (Br.pos (by simp[lenM]) (App2.i (app24 (by simp;omega)) (Rt.i rfl))))
  rw[List.take_length,List.drop_length]
  exact this
theorem cmpB_lt {a b:ByteArray}:cmpB a b<0↔sLt a b:=by
 unfold cmpB
 by_cases h:sLt a b
 ·rw[if_pos h];simp[h]
 ·rw[if_neg h];by_cases k:sLt b a
  ·rw[if_pos k];simp[h]
  ·rw[if_neg k];simp[h]
theorem cmpB_eq {a b:ByteArray}:cmpB a b=0↔a=b:=by
 unfold cmpB
 by_cases h:sLt a b
 ·rw[if_pos h];exact⟨fun e=>(by cases e),fun e=>(by subst e;exact absurd h (Qak _))⟩
 ·rw[if_neg h];by_cases k:sLt b a
  ·rw[if_pos k];exact⟨fun e=>(by cases e),fun e=>(by subst e;exact absurd k (Qak _))⟩
  ·rw[if_neg k];exact⟨fun _=>sLt_tri h k,fun _=>rfl⟩
theorem place_1_r (x:zab) (s:ByteArray):zga_r x s (cmpB x.ISIN s):=by
 refine zga_of ?_
 unfold zga_w
 exact⟨_,Qbz _ _,Rt.i rfl⟩
theorem bs_l {A B:List zab}{s:ByteArray}(hA:∀y∈A,sLt y.ISIN s) (hB:∀y∈B,¬ sLt y.ISIN s) (hl:(A++B).length≤1000000){Q:Int→Prop}(q:Q (A.length:Nat)):
  ∀(n i j:Nat),j-i≤n→i≤A.length→A.length≤j→j≤(A++B).length→zan_L0 (A++B) s Q i j:=by
 intro n
 induction n with
 |zero=>
  intro i j hn hi hj hjl
  have e:i=A.length:=by omega
  refine zan_l0 ?_
  unfold zan_w0
  exact Br.neg (by omega) (Lf.i (by rw[e];exact q))
 |succ n ih=>
  intro i j hn hi hj hjl
  refine zan_l0 ?_
  unfold zan_w0
  by_cases c:i<j
  ·rw[half (i:=i) (j:=j) (by omega),show(((i+j)/2:Nat):Int)+1=(((i+j)/2+1:Nat):Int) by omega]
   have hk:(i+j)/2<(A++B).length:=by omega
   refine Br.pos (by omega) (Num.n (by omega) ⟨(A++B)[(i+j)/2],Got.i ⟨_,place_1_r _ _,Br.i (fun c1=>Num.n (by omega) ?_) (fun c1 => ?_)⟩ (by omega) (show(A++B)[(i+j)/2]? = _ from List.getElem?_eq_getElem hk)⟩)
   ·have c1:=cmpB_lt.1 c1
    have:(i+j)/2<A.length:=Nat.lt_of_not_le fun h=>by
     refine hB _ ?_ c1
     rw[List.getElem_append_right h];exact List.getElem_mem _
    exact ih _ _ (by omega) (by omega) hj hjl
   ·have c1:¬ sLt ((A++B)[(i+j)/2]).ISIN s:=fun h=>c1 (cmpB_lt.2 h)
    have:A.length≤(i+j)/2:=Nat.le_of_not_lt fun h=>by
     refine c1 (hA _ ?_)
     rw[List.getElem_append_left h];exact List.getElem_mem _
    exact ih _ _ (by omega) hi this (by omega)
  ·have e:i=A.length:=by omega
   exact Br.neg (by omega) (Lf.i (by rw[e];exact q))
def hit (s:ByteArray):List zab→Bool
 |[]=>false
 |y::_=>decide (y.ISIN=s)
theorem place_r {A B:List zab}{s:ByteArray}(hA:∀y∈A,sLt y.ISIN s) (hB:∀y∈B,¬ sLt y.ISIN s) (hl:(A++B).length≤1000000):zgj_r (A++B) s ((A.length:Nat),hit s B):=by
 refine zgj_of ?_
 unfold zgj_w
 refine⟨((A.length:Nat),hit s B),zan_of ?_,Rt.i rfl⟩
 unfold zan_w
 rw[Qab]
 refine bs_l hA hB hl ?_ (A++B).length 0 (A++B).length (by omega) (by omega) (by simp) (Nat.le_refl _)
 cases B with
 |nil=>exact Br.neg (by simp) (Rt.i rfl)
 |cons y B=>
  refine Br.pos (by simp;omega) ⟨y,Got.i ⟨_,place_1_r _ _,Rt.i ?_⟩ (by omega) (by simp)⟩
  unfold hit
  congr 1
  rw[Bool.eq_iff_iff]
  simp[cmpB_eq]
def qtyG (s:ByteArray):List zab→Int
 |[]=>0
 |y::l=>if y.ISIN=s then y.Qty else qtyG s l
theorem qty_l {a:List zab}{s:ByteArray}{Q0:Int→Prop}{Q1:Unit→Prop}(hl:a.length≤1000000):∀(n i:Nat),n+i=a.length→(∀r,r=qtyG s (a.drop i)→(∃y∈a.drop i,y.ISIN=s)→Q0 r)→((∀y∈a.drop i,y.ISIN≠s)→Q1 ())→zcf_L0 a s Q0 Q1 (i:Int):=by
 intro n
 induction n with
 |zero=>
  intro i h q0 q1
  refine zcf_l0 ?_
  unfold zcf_w0
  rw[Qab]
  exact Br.neg (by omega) (Lf.i (q1 (by rw[List.drop_of_length_le (by omega)];simp)))
 |succ n ih=>
  intro i h q0 q1
  have hs:i<a.length:=by omega
  refine zcf_l0 ?_
  unfold zcf_w0
  rw[Qab]
  rw[List.drop_eq_getElem_cons hs] at q0 q1
  have g:a[(i:Int).toNat]? = some a[i]:=by simp[hs]
  refine Br.pos (by omega) ⟨a[i],Got.i (Br.i (fun c=>Got.i (Lf.i (q0 _ (by simp[qtyG,c]) ⟨_,List.mem_cons_self ..,c⟩)) (by omega) g) (fun c=>Num.n (by omega) ?_)) (by omega) g⟩
  refine ih (i+1) (by omega) (fun r hr ⟨y,hy,he⟩=>q0 r (by simp only[qtyG];rw[if_neg c];exact hr) ⟨y,List.mem_cons_of_mem _ hy,he⟩) (fun hy=>q1 fun y hm => ?_)
  rcases List.mem_cons.1 hm with rfl|hm
  ·exact c
  ·exact hy y hm
theorem Qc0 {s:ByteArray}:∀{l:List zab},(∀y∈l,y.ISIN≠s)→qtyG s l=0
 |[],_=>rfl
 |y::l,h=>by simp only[qtyG];rw[if_neg (h y (by simp))];exact Qc0 fun z hz=>h z (by simp[hz])
theorem Qty_r {a:List zab}{s:ByteArray}(hl:a.length≤1000000):zcf_r a s (qtyG s a):=by
 refine zcf_of ?_
 unfold zcf_w
 refine qty_l hl a.length 0 (by omega) (fun r hr _=>Rt.i (by rw[hr];simp)) (fun h=>Rt.i ?_)
 rw[Qc0 (by simpa using h)]
def setG (s:ByteArray)(q:Int):Bool→List zab→List zab
 |true,[]=>[]
 |false,[]=>[⟨s,q⟩]
 |true,y::l=>(if y.ISIN=s then [] else [y])++setG s q true l
 |false,y::l=>if sLt y.ISIN s then(if y.ISIN=s then [] else [y])++setG s q false l else ⟨s,q⟩::((if y.ISIN=s then [] else [y])++setG s q true l)
theorem set_l {a:List zab}{s:ByteArray}{q:Int}{R:List zab}{Q:List zab→Prop}(hl:a.length≤1000000) (hQ:Q R):∀(n i:Nat)(d:Bool)(acc:List zab),n+i=a.length→acc.length≤i+d.toNat→R=acc++setG s q d (a.drop i)→
  zck_L0 a s q (fun(y1:Bool×(List zab))=>Br (!y1.1) (App2 24 zab.enc y1.2 [(⟨s,q⟩:zab)] (Q (y1.2++[(⟨s,q⟩:zab)]))) (Q y1.2)) d (i:Int) acc:=by
 intro n
 induction n with
 |zero=>
  intro i d acc h ha hR
  have hd:d.toNat≤1:=by cases d<;>decide
  refine zck_l0 ?_
  unfold zck_w0
  rw[Qab]
  rw[List.drop_of_length_le (by omega)] at hR
  refine Br.neg (by omega) (Lf.i ?_)
  cases d with
  |true=>exact Br.f rfl (by rw[hR] at hQ;simpa[setG] using hQ)
  |false=>exact Br.t rfl (App2.i (app24 (by simp;omega)) (by rw[hR] at hQ;simpa[setG] using hQ))
 |succ n ih=>
  intro i d acc h ha hR
  have hd:d.toNat≤1:=by cases d<;>decide
  have hs:i<a.length:=by omega
  refine zck_l0 ?_
  unfold zck_w0
  rw[Qab]
  rw[List.drop_eq_getElem_cons hs] at hR
  have g:a[(i:Int).toNat]? = some a[i]:=by simp[hs]
  refine Br.pos (by omega) ?_
  cases d with
  |true=>
   simp only[setG] at hR
   simp only[Bool.toNat_true] at ha
   refine Br.f rfl ⟨a[i],Got.i (Br.i (fun c=>Got.i (App2.i (app24 (by simp;omega)) (Num.n (by omega) (ih (i+1) true _ (by omega) (by simp;omega) ?_))) (by omega) g) (fun c=>Num.n (by omega) (ih (i+1) true _ (by omega) (by omega) ?_))) (by omega) g⟩
   ·rw[hR,if_neg c];simp
   ·rw[hR,if_pos (Decidable.not_not.1 c)];simp
  |false=>
   simp only[setG] at hR
   simp only[Bool.toNat_false] at ha
   refine Br.t rfl ⟨a[i],Got.i (Br.i (fun c0 => ?_) (fun c0 => ?_)) (by omega) g⟩
   ·rw[if_neg c0] at hR
    refine App2.i (app24 (by simp;omega)) (Got.i (Br.i (fun c=>Got.i (App2.i (app24 (by simp;omega)) (Num.n (by omega) (ih (i+1) true _ (by omega) (by simp;omega) ?_))) (by omega) g) (fun c=>Num.n (by omega) (ih (i+1) true _ (by omega) (by simp;omega) ?_))) (by omega) g)
    ·rw[hR,if_neg c];simp
    ·rw[hR,if_pos (Decidable.not_not.1 c)];simp
   ·rw[if_pos (Decidable.not_not.1 c0)] at hR
    refine Got.i (Br.i (fun c=>Got.i (App2.i (app24 (by simp;omega)) (Num.n (by omega) (ih (i+1) false _ (by omega) (by simp;omega) ?_))) (by omega) g) (fun c=>Num.n (by omega) (ih (i+1) false _ (by omega) (by omega) ?_))) (by omega) g
    ·rw[hR,if_neg c];simp
    ·rw[hR,if_pos (Decidable.not_not.1 c)];simp
theorem Set_r {a:List zab}{s:ByteArray}{q:Int}(hl:a.length≤1000000):zck_r a s q (setG s q (q==0) a):=by
 refine zck_of ?_
 unfold zck_w
 exact set_l (Q:=fun v=>zck_e (fun v_=>v_=setG s q (q==0) a) v) hl (Rt.i rfl) a.length 0 _ [] (by omega) (by simp) (by simp)
end Go.Proofs.YtjlkmdmaimednaaGreat.Pure
namespace Go.Proofs.YtjlkmdmaimednaaGreat.Pure
open Go Go.Ab Go.Proofs.YtjlkmdmaimednaaGreat.R
structure Lk (l:List zab):Prop where
 srt:l.Pairwise (fun x y=>sLt x.ISIN y.ISIN)
 pos:∀y∈l,1≤y.Qty∧y.Qty≤1125899906842624
 len:l.length≤64
theorem split_at (s:ByteArray):∀(l:List zab),l.Pairwise (fun x y=>sLt x.ISIN y.ISIN)→∃A B,l=A++B∧(∀y∈A,sLt y.ISIN s)∧(∀y∈B,¬ sLt y.ISIN s)
 |[],_=>⟨[],[],rfl,by simp,by simp⟩
 |y::l,h=>by
  obtain⟨h1,h2⟩:=List.pairwise_cons.1 h
  by_cases c:sLt y.ISIN s
  ·obtain⟨A,B,e,hA,hB⟩:=split_at s l h2
   refine⟨y::A,B,by rw[e];rfl,fun z hz => ?_,hB⟩
   rcases List.mem_cons.1 hz with rfl|hz
   ·exact c
   ·exact hA z hz
  ·refine⟨[],y::l,rfl,by simp,fun z hz => ?_⟩
   rcases List.mem_cons.1 hz with rfl|hz
   ·exact c
   ·exact fun k=>c (Qcx (h1 z hz) k)
theorem setG_A {s:ByteArray}{q:Int}{B:List zab}:∀{A:List zab},(∀y∈A,sLt y.ISIN s)→setG s q false (A++B)=A++setG s q false B
 |[],_=>rfl
 |y::A,h=>by
  have hy:=h y (by simp)
  have:y.ISIN≠s:=fun e=>by rw[e] at hy;exact Qak _ hy
  simp only[List.cons_append,setG]
  rw[if_pos hy,if_neg this,setG_A fun z hz=>h z (by simp[hz])];rfl
theorem setG_B {s:ByteArray}{q:Int}:∀{B:List zab},(∀y∈B,y.ISIN≠s)→setG s q true B=B
 |[],_=>rfl
 |y::B,h=>by
  simp only[setG]
  rw[if_neg (h y (by simp)),setG_B fun z hz=>h z (by simp[hz])];rfl
theorem qtyG_A {s:ByteArray}{B:List zab}:∀{A:List zab},(∀y∈A,sLt y.ISIN s)→qtyG s (A++B)=qtyG s B
 |[],_=>rfl
 |y::A,h=>by
  have hy:=h y (by simp)
  have:y.ISIN≠s:=fun e=>by rw[e] at hy;exact Qak _ hy
  simp only[List.cons_append,qtyG]
  rw[if_neg this];exact qtyG_A fun z hz=>h z (by simp[hz])
theorem gone_B {s:ByteArray}{y:zab}{B:List zab}(h:(y::B).Pairwise (fun x y=>sLt x.ISIN y.ISIN)) (hy:¬ sLt y.ISIN s):∀z∈B,z.ISIN≠s:=fun z hz e=>by
 have:=(List.pairwise_cons.1 h).1 z hz
 rw[e] at this;exact hy this
def addG (l:List zab)(x:zab):List zab×Int:=
 if qtyG x.ISIN l=0∧64≤l.length then([],2) else if 1125899906842624-qtyG x.ISIN l<x.Qty then([],9) else(setG x.ISIN (qtyG x.ISIN l+x.Qty) false l,0)
theorem Qcr {l:List zab}{x:zab}(h:Lk l):∃A B,l=A++B∧(∀y∈A,sLt y.ISIN x.ISIN)∧(∀y∈B,¬ sLt y.ISIN x.ISIN)∧
  ((hit x.ISIN B=false∧qtyG x.ISIN l=0∧∀q,setG x.ISIN q false l=A++⟨x.ISIN,q⟩::B)∨(∃y B',B=y::B'∧hit x.ISIN B=true∧y.ISIN=x.ISIN∧qtyG x.ISIN l=y.Qty∧∀q,setG x.ISIN q false l=A++⟨x.ISIN,q⟩::B')):=by
 obtain⟨A,B,e,hA,hB⟩:=split_at x.ISIN l h.srt
 refine⟨A,B,e,hA,hB,?_⟩
 have hs:=h.srt
 rw[e] at hs
 have hsB:=(List.pairwise_append.1 hs).2.1
 rw[e,qtyG_A hA]
 cases B with
 |nil=>exact .inl ⟨rfl,rfl,fun q=>by rw[setG_A hA];rfl⟩
 |cons y B=>
  have hy:=hB y (by simp)
  have hz:=gone_B hsB hy
  by_cases c:y.ISIN=x.ISIN
  ·refine .inr ⟨y,B,rfl,by simp[hit,c],c,by simp[qtyG,c],fun q => ?_⟩
   rw[setG_A hA];simp only[setG];rw[if_neg hy,if_pos c,setG_B hz];rfl
  ·refine .inl ⟨by simp[hit,c],?_,fun q => ?_⟩
   ·simp only[qtyG];rw[if_neg c,Qc0 hz]
   ·rw[setG_A hA];simp only[setG];rw[if_neg hy,if_neg c,setG_B hz];rfl
theorem add_r {l:List zab}{x:zab}(h:Lk l) (hx:1≤x.Qty∧x.Qty≤1125899906842624):zgo_r l x (addG l x):=by
 have hl:=h.len
 obtain⟨A,B,e,hA,hB,hc⟩:=Qcr (x:=x) h
 refine zgo_of ?_
 unfold zgo_w addG
 have hp:=place_r hA hB (by rw[←e];omega)
 rw[←e] at hp
 refine⟨_,hp,?_⟩
 rw[Qab]
 rcases hc with⟨c1,c2,c3⟩|⟨y,B',rfl,c1,c4,c2,c3⟩
 ·refine Br.t (by simp[c1]) (Br.i (fun c=>Rt.i (by rw[if_pos ⟨c2,by omega⟩])) (fun c=>⟨_,Insert_r (n:=A.length) (by rw[e];simp) (by omega),Rt.i ?_⟩))
  rw[if_neg (by omega),c2,if_neg (by omega),c3,e,Int.zero_add]
  simp
 ·have hy:=h.pos y (by rw[e];simp)
  have ha:A.length<l.length:=by rw[e];simp
  have g:l[((A.length:Nat):Int).toNat]? = some y:=by rw[e];simp
  refine Br.f (by simp[c1]) (InL.i ⟨y,EltG.i (Num.n (by omega) (Br.i (fun c=>Rt.i ?_) (fun c=>InL.i (EltG.i (Num.n (by omega) (InL.i (EltS.i (Rt.i ?_) g) (by omega) (by simpa using ha))) g) (by omega) (by simpa using ha)))) g⟩ (by omega) (by simpa using ha))
  ·rw[if_neg (by omega),c2,if_pos (by omega)]
  ·rw[if_neg (by omega),c2,if_neg (by omega),c3,e,c4]
   simp
theorem add_ok {l:List zab}{x:zab}(h:Lk l) (hx:1≤x.Qty∧x.Qty≤1125899906842624) (h0:(addG l x).2=0):Lk (addG l x).1:=by
 have hl:=h.len
 obtain⟨A,B,e,hA,hB,hc⟩:=Qcr (x:=x) h
 have hs:=h.srt
 rw[e] at hs
 obtain⟨sA,sB,sAB⟩:=List.pairwise_append.1 hs
 unfold addG at h0 ⊢
 split at h0
 ·cases h0
 ·rename_i n1
  split at h0
  ·cases h0
  ·rename_i n2
   rw[if_neg n1,if_neg n2]
   rcases hc with⟨c1,c2,c3⟩|⟨y,B',rfl,c1,c4,c2,c3⟩
   ·have n1:¬ 64≤l.length:=fun k=>n1 ⟨c2,k⟩
    rw[c3,c2,Int.zero_add]
    refine⟨List.pairwise_append.2 ⟨sA,List.pairwise_cons.2 ⟨fun z hz => ?_,sB⟩,fun a ha z hz => ?_⟩,fun z hz => ?_,?_⟩
    ·cases B with
     |nil=>cases hz
     |cons b B=>
      have hb:=hB b (by simp)
      have nb:b.ISIN≠x.ISIN:=by simpa[hit] using c1
      have xb:sLt x.ISIN b.ISIN:=Decidable.byContradiction fun k=>nb (sLt_tri hb k)
      rcases List.mem_cons.1 hz with rfl|hz
      ·exact xb
      ·exact Qcx xb ((List.pairwise_cons.1 sB).1 z hz)
    ·rcases List.mem_cons.1 hz with rfl|hz
     ·exact hA a ha
     ·exact sAB a ha z hz
    ·rcases List.mem_append.1 hz with hz|hz
     ·exact h.pos z (by rw[e];simp[hz])
     ·rcases List.mem_cons.1 hz with rfl|hz
      ·exact hx
      ·exact h.pos z (by rw[e];simp[hz])
    ·have:l.length=A.length+B.length:=by rw[e];simp
     simp;omega
   ·have hy:=h.pos y (by rw[e];simp)
    rw[c3,c2]
    refine⟨List.pairwise_append.2 ⟨sA,List.pairwise_cons.2 ⟨fun z hz => ?_,(List.pairwise_cons.1 sB).2⟩,fun a ha z hz => ?_⟩,fun z hz => ?_,?_⟩
    ·have:=(List.pairwise_cons.1 sB).1 z hz
     rw[c4] at this;exact this
    ·rcases List.mem_cons.1 hz with rfl|hz
     ·exact hA a ha
     ·exact sAB a ha z (by simp[hz])
    ·rcases List.mem_append.1 hz with hz|hz
     ·exact h.pos z (by rw[e];simp[hz])
     ·rcases List.mem_cons.1 hz with rfl|hz
      ·simp;omega
      ·exact h.pos z (by rw[e];simp[hz])
    ·have:l.length=A.length+(B'.length+1):=by rw[e];simp
     simp;omega
theorem Qfh {s:ByteArray}:∀{l:List zab},(∀y∈l,1≤y.Qty∧y.Qty≤1125899906842624)→0≤qtyG s l∧qtyG s l≤1125899906842624
 |[],_=>by simp[qtyG]
 |y::l,h=>by
  simp only[qtyG]
  have:=h y (by simp)
  split
  ·omega
  ·exact Qfh fun z hz=>h z (by simp[hz])
theorem RPlus1_r {l:List zab}{x:zab}(h:Lk l) (hx:1≤x.Qty∧x.Qty≤1125899906842624):zbf_r l [x] (addG l x):=by
 have hl:=h.len
 have hq:=Qfh (s:=x.ISIN) h.pos
 refine zbf_of ?_
 unfold zbf_w addG
 refine zbf_l0 ?_
 unfold zbf_w0
 have e1:(lenM zab.enc [x])=1:=by simp[lenM]
 rw[e1,Qab]
 have g:([x]:List zab)[(0:Int).toNat]? = some x:=rfl
 have z:(0:Int)≤0:=Int.le_refl _
 have Z:∀{q:Int},q≠0→setG x.ISIN q (q==0) l=setG x.ISIN q false l:=fun{q} hq=>by rw[beq_false_of_ne hq]
 have S:=Set_r (a:=l) (s:=x.ISIN) (q:=qtyG x.ISIN l+x.Qty) (by omega)
 rw[Z (by omega)] at S
 have fin:Got zab.enc [x] 0 x (Num .i64 (1125899906842624-qtyG x.ISIN l) (Br (decide (x.Qty>(1125899906842624-qtyG x.ISIN l))) (Qgr [x] (fun(y1:Int)=>zbf_e (fun v_=>v_=if 1125899906842624-qtyG x.ISIN l<x.Qty then([],9) else(setG x.ISIN (qtyG x.ISIN l+x.Qty) false l,0)) ([],y1)) 9) (Got zab.enc [x] 0 x (Got zab.enc [x] 0 x (Num .i64 (qtyG x.ISIN l+x.Qty) (∃ra3:(List zab),(zck_r l x.ISIN (qtyG x.ISIN l+x.Qty) ra3)∧(Num .i64 (0+1) (zbf_L0 [x] (fun(y1:Int)=>zbf_e (fun v_=>v_=if 1125899906842624-qtyG x.ISIN l<x.Qty then([],9) else(setG x.ISIN (qtyG x.ISIN l+x.Qty) false l,0)) ([],y1)) (fun(y1:(List zab))=>zbf_e (fun v_=>v_=if 1125899906842624-qtyG x.ISIN l<x.Qty then([],9) else(setG x.ISIN (qtyG x.ISIN l+x.Qty) false l,0)) (y1,0)) ra3 (0+1)))))))) ):=by
  refine Got.i (Num.n (by omega) (Br.i (fun c=>Lf.i (Rt.i (by rw[if_pos (by omega)]))) (fun c=>Got.i (Got.i (Num.n (by omega) ⟨_,S,Num.n (by omega) (zbf_l0 ?_)⟩) z g) z g))) z g
  unfold zbf_w0
  rw[e1]
  exact Br.neg (by omega) (Lf.i (Rt.i (by rw[if_neg (by omega)])))
 refine Br.pos (by omega) ⟨x,Got.i ⟨_,Qty_r (by omega),Br.i (fun c=>Br.i (fun c2=>Lf.i (Rt.i (by rw[if_pos ⟨c,by omega⟩]))) (fun c2 => ?_)) (fun c => ?_)⟩ z g⟩
 ·rw[if_neg (by omega)];exact fin
 ·rw[if_neg (by omega)];exact fin
def mergeG:List zab→List zab→List zab×Int
 |out,[]=>(out,0)
 |out,x::l=>if x.Qty<1∨1125899906842624<x.Qty then([],1) else if (addG out x).2≠0 then([],(addG out x).2) else mergeG (addG out x).1 l
theorem merge_l {a:List zab}{Q0:Int→Prop}{Q1:List zab→Prop}(hl:a.length≤1000000):∀(n i:Nat)(out:List zab),n+i=a.length→Lk out→(∀e,e≠0→mergeG out (a.drop i)=([],e)→Q0 e)→(∀r,mergeG out (a.drop i)=(r,0)→Q1 r)→zde_L0 a Q0 Q1 (i:Int) out:=by
 intro n
 induction n with
 |zero=>
  intro i out h ho q0 q1
  refine zde_l0 ?_
  unfold zde_w0
  rw[Qab]
  rw[List.drop_of_length_le (by omega)] at q1
  exact Br.neg (by omega) (Lf.i (q1 _ rfl))
 |succ n ih=>
  intro i out h ho q0 q1
  have hs:i<a.length:=by omega
  refine zde_l0 ?_
  unfold zde_w0
  rw[Qab]
  rw[List.drop_eq_getElem_cons hs] at q0 q1
  have g:a[(i:Int).toNat]? = some a[i]:=by simp[hs]
  simp only[mergeG] at q0 q1
  refine Br.pos (by omega) ⟨a[i],Got.i (Br.i (fun c=>Lf.i (q0 1 (by decide) (by rw[if_pos (.inl c)]))) (fun c=>Br.i (fun c2=>Lf.i (q0 1 (by decide) (by rw[if_pos (.inr c2)]))) (fun c2=>⟨_,add_r ho ⟨by omega,by omega⟩,Br.i (fun c3=>Lf.i (q0 _ c3 ?_)) (fun c3=>Num.n (by omega) ?_)⟩))) (by omega) g⟩
  ·rw[if_neg (by omega),if_pos c3]
  ·have c3:=Decidable.not_not.1 c3
   refine ih (i+1) _ (by omega) (add_ok ho ⟨by omega,by omega⟩ c3) (fun e he hm=>q0 e he ?_) (fun r hm=>q1 r ?_)
   ·rw[if_neg (by omega),if_neg (by omega)];exact hm
   ·rw[if_neg (by omega),if_neg (by omega)];exact hm
theorem merge_or:∀(l out:List zab),(∃r,mergeG out l=(r,0))∨(∃e,e≠0∧mergeG out l=([],e))
 |[],out => .inl ⟨out,rfl⟩
 |x::l,out=>by
  simp only[mergeG]
  by_cases c:x.Qty<1∨1125899906842624<x.Qty
  ·rw[if_pos c];exact .inr ⟨1,by decide,rfl⟩
  ·rw[if_neg c]
   by_cases c2:(addG out x).2≠0
   ·rw[if_pos c2];exact .inr ⟨_,c2,rfl⟩
   ·rw[if_neg c2];exact merge_or l _
theorem Lk_nil:Lk []:=⟨List.Pairwise.nil,by simp,by simp⟩
theorem Merge_r {a:List zab}(hl:a.length≤1000000):zde_r a (mergeG [] a):=by
 refine zde_of ?_
 unfold zde_w
 exact merge_l hl a.length 0 [] (by omega) Lk_nil (fun e he hm=>Rt.i (by simpa using hm.symm)) (fun r hm=>Rt.i (by simpa using hm.symm))
theorem rgood_r {n:Int}:zdz_r n (decide (1≤n∧n≤1125899906842624)):=by
 refine zdz_of ?_
 unfold zdz_w
 refine Br.i (fun c=>Rt.i ?_) (fun c=>Rt.i ?_)
 ·exact decide_eq_decide.2 ⟨fun h=>⟨c,h⟩,fun h=>h.2⟩
 ·rw[decide_eq_false (fun h=>c h.1)]
theorem rmerge_l {a:List zab}{Q0:Int→Prop}{Q1:List zab→Prop}(hl:a.length≤1000000):∀(n i:Nat)(out:List zab),n+i=a.length→Lk out→(∀e,e≠0→mergeG out (a.drop i)=([],e)→Q0 e)→(∀r,mergeG out (a.drop i)=(r,0)→Q1 r)→zbu_L0 a Q0 Q1 out (i:Int):=by
 intro n
 induction n with
 |zero=>
  intro i out h ho q0 q1
  refine zbu_l0 ?_
  unfold zbu_w0
  rw[Qab]
  rw[List.drop_of_length_le (by omega)] at q1
  exact Br.neg (by omega) (Lf.i (q1 _ rfl))
 |succ n ih=>
  intro i out h ho q0 q1
  have hs:i<a.length:=by omega
  refine zbu_l0 ?_
  unfold zbu_w0
  rw[Qab]
  have e1:((a.take (((i:Int)+1)).toNat).drop ((i:Int)).toNat)=[a[i]]:=by
   rw[show((i:Int)+1).toNat=i+1 by omega,Int.toNat_natCast,List.drop_take,List.drop_eq_getElem_cons hs,show i+1-i=1 by omega];rfl
  rw[e1]
  rw[List.drop_eq_getElem_cons hs] at q0 q1
  have g:a[(i:Int).toNat]? = some a[i]:=by simp[hs]
  simp only[mergeG] at q0 q1
  refine Br.pos (by omega) ⟨a[i],Got.i ⟨_,rgood_r,Br.i (fun c=>Lf.i (q0 1 (by decide) ?_)) (fun c => ?_)⟩ (by omega) g⟩
  ·rw[if_pos (by omega)]
  ·have c:1≤a[i].Qty∧a[i].Qty≤1125899906842624:=Decidable.not_not.1 c
   refine Num.n (by omega) (CutLlh.i ⟨by omega,by omega,by omega⟩ ⟨_,RPlus1_r ho c,Br.i (fun c3=>Lf.i (q0 _ c3 ?_)) (fun c3=>Num.n (by omega) ?_)⟩)
   ·rw[if_neg (by omega),if_pos c3]
   ·have c3:=Decidable.not_not.1 c3
    refine ih (i+1) _ (by omega) (add_ok ho c c3) (fun e he hm=>q0 e he ?_) (fun r hm=>q1 r ?_)
    ·rw[if_neg (by omega),if_neg (by omega)];exact hm
    ·rw[if_neg (by omega),if_neg (by omega)];exact hm
theorem RMerge_r {a:List zab}(hl:a.length≤1000000):zbu_r a (mergeG [] a):=by
 refine zbu_of ?_
 unfold zbu_w
 exact rmerge_l hl a.length 0 [] (by omega) Lk_nil (fun e he hm=>Rt.i (by simpa using hm.symm)) (fun r hm=>Rt.i (by simpa using hm.symm))
theorem of_l {a:List zaa}{Q:List zab→Prop}(hl:a.length≤1000000):∀(n i:Nat)(acc:List zab),n+i=a.length→acc.length=i→Q (acc++(a.drop i).map (·.Lot))→zfk_L0 a Q (i:Int) acc:=by
 intro n
 induction n with
 |zero=>
  intro i acc h ha q
  refine zfk_l0 ?_
  unfold zfk_w0
  rw[Qab]
  rw[List.drop_of_length_le (by omega)] at q
  exact Br.neg (by omega) (Lf.i (by simpa using q))
 |succ n ih=>
  intro i acc h ha q
  have hs:i<a.length:=by omega
  refine zfk_l0 ?_
  unfold zfk_w0
  rw[Qab]
  rw[List.drop_eq_getElem_cons hs] at q
  have g:a[(i:Int).toNat]? = some a[i]:=by simp[hs]
  exact Br.pos (by omega) ⟨a[i],Got.i (App2.i (app24 (by simp;omega)) (Num.n (by omega) (ih (i+1) _ (by omega) (by simp;omega) (by rw[List.append_assoc];exact q)))) (by omega) g⟩
theorem LOf_r {a:List zaa}(hl:a.length≤1000000):zfk_r a (mergeG [] (a.map (·.Lot))):=by
 refine zfk_of ?_
 unfold zfk_w
 exact of_l hl a.length 0 [] (by omega) rfl ⟨_,Merge_r (by simpa using hl),Rt.i (by simp)⟩
end Go.Proofs.YtjlkmdmaimednaaGreat.Pure
