/- Texts put together. -/
import Derived.Test.YtjlkmdmaimednaaGreatRA
import Derived.Test.YtjlkmdmaimednaaGreatAbStr
import Derived.Test.YtjlkmdmaimednaaGreatTLotB
import Derived.Test.YtjlkmdmaimednaaGreatINAC
import Derived.Test.YtjlkmdmaimednaaGreatINIC
import Derived.Test.YtjlkmdmaimednaaGreatTRankR
set_option linter.unusedVariables false
set_option linter.unusedSimpArgs false
namespace Go.Proofs.YtjlkmdmaimednaaGreat.Pure
open Go Go.Ab Go.Proofs.YtjlkmdmaimednaaGreat.R
def by8 (s:ByteArray):List Int:=s.data.toList.map (fun u=>(u.toNat:Int))
theorem Qbf (s:ByteArray):(by8 s).length=s.size:=by unfold by8;rw[List.length_map];rfl
theorem Qe2 {s:ByteArray}{i:Nat}(h:i<(by8 s).length):At8 s i (by8 s)[i]:=by
 unfold by8 at h ⊢
 rw[List.length_map] at h
 have h2:i<s.data.size:=h
 unfold At8
 rw[List.getElem_map,Array.getElem?_eq_getElem h2,Option.map_some,Array.getElem_toList]
theorem by8_bd {s:ByteArray}:∀c∈by8 s,0≤c∧c≤255:=by
 intro c h
 unfold by8 at h
 obtain⟨u,_,rfl⟩:=List.mem_map.1 h
 have:=UInt8.toNat_lt u
 omega
theorem by8_cut {s:ByteArray}{n:Nat}:by8 (s.extract 0 n)=(by8 s).take n:=by
 unfold by8
 rw[←List.map_take]
 congr 1
 rw[ByteArray.data_extract]
 simp
theorem u8n {n:Int}(h:0≤n∧n≤255):IntKind.u8.wrap n=n:=by
 simp only[IntKind.wrap,IntKind.bits,IntKind.signed]
 simp
 omega
theorem app8 {n:Nat}(h:n≤3000000):App 8 n:=⟨by unfold maxLen;omega,by omega⟩
def isD (c:Int):Bool:=decide (48≤c∧c≤57)
def isU (c:Int):Bool:=decide (65≤c∧c≤90)
def okC (c:Int):Bool:=isD c||isU c
def dg (c:Int):List Int:=if isD c then [c-48] else [(c-65+10)/10,(c-65+10)%10]
theorem Qfn {c:Int}:isD c=true↔48≤c∧c≤57:=by unfold isD;simp
theorem isU_iff {c:Int}:isU c=true↔65≤c∧c≤90:=by unfold isU;simp
theorem isD_f {c:Int}:isD c=false↔¬ (48≤c∧c≤57):=by unfold isD;exact decide_eq_false_iff_not
theorem isU_f {c:Int}:isU c=false↔¬ (65≤c∧c≤90):=by unfold isU;exact decide_eq_false_iff_not
theorem digit_r (c:Int):zgg_r c (isD c):=by
 refine zgg_of ?_
 unfold zgg_w
 refine Br.i (fun h=>Rt.i ?_) (fun h=>Rt.i ?_)
 ·unfold isD;exact decide_eq_decide.2 ⟨fun k=>⟨by omega,k⟩,fun k=>k.2⟩
 ·exact(isD_f.2 (by omega)).symm
theorem upper_r (c:Int):zgl_r c (isU c):=by
 refine zgl_of ?_
 unfold zgl_w
 refine Br.i (fun h=>Rt.i ?_) (fun h=>Rt.i ?_)
 ·unfold isU;exact decide_eq_decide.2 ⟨fun k=>⟨by omega,k⟩,fun k=>k.2⟩
 ·exact(isU_f.2 (by omega)).symm
theorem dg_D {c:Int}(h:isD c=true):dg c=[c-48]:=by unfold dg;rw[if_pos h]
theorem dg_U {c:Int}(h:isD c=false):dg c=[(c-65+10)/10,(c-65+10)%10]:=by unfold dg;rw[if_neg (by rw[h];decide)]
theorem dg_bd {c:Int}(h:okC c=true):∀d∈dg c,0≤d∧d≤9:=by
 intro d hd
 cases k:isD c with
 |true=>rw[dg_D k] at hd;have:=Qfn.1 k;simp at hd;omega
 |false=>
  rw[dg_U k] at hd
  unfold okC at h;rw[k] at h
  have:=isU_iff.1 (by simpa using h)
  simp at hd
  omega
theorem dg_len (c:Int):(dg c).length≤2:=by unfold dg;split<;>simp
def digS (s:List Int):List Int×Bool:=if s.all okC then(s.flatMap dg,true) else([],false)
theorem digits_l {s:ByteArray}(hl:s.size≤1000){Q0:Unit→Prop}{Q1:List Int→Prop}:∀(n i:Nat)(acc:List Int),n+i=s.size→acc.length≤2*i→
  (((by8 s).drop i).all okC=false→Q0 ())→(((by8 s).drop i).all okC=true→Q1 (acc++((by8 s).drop i).flatMap dg))→zbo_L0 s Q0 Q1 (i:Int) acc:=by
 intro n
 induction n with
 |zero=>
  intro i acc h ha q0 q1
  refine zbo_l0 ?_
  unfold zbo_w0
  rw[List.drop_of_length_le (by rw[Qbf];omega)] at q1
  exact Br.neg (by omega) (Lf.i (by simpa using q1 rfl))
 |succ n ih=>
  intro i acc h ha q0 q1
  have hs:i<(by8 s).length:=by rw[Qbf];omega
  rw[List.drop_eq_getElem_cons hs,List.all_cons,List.flatMap_cons] at q1
  rw[List.drop_eq_getElem_cons hs,List.all_cons] at q0
  have bd:=by8_bd _ (List.getElem_mem hs)
  have at8:=Qe2 hs
  generalize (by8 s)[i]=c at bd at8 q0 q1
  refine zbo_l0 ?_
  unfold zbo_w0
  have next:∀acc',acc'=acc++dg c→okC c=true→zbo_L0 s Q0 Q1 ((i+1:Nat):Int) acc':=by
   intro acc' e ok
   subst e
   have:=dg_len c
   refine ih (i+1) _ (by omega) (by simp;omega) (fun k=>q0 (by rw[k];simp)) (fun k => ?_)
   rw[List.append_assoc]
   exact q1 (by rw[k,ok];rfl)
  have bad:okC c=false→Q0 ():=fun k=>q0 (by rw[k];rfl)
  refine Br.pos (by omega) ⟨c,StrG.i (by omega) at8 (Num.n (by omega) (Br.i (fun c0=>Br.i (fun c1 => ?_) (fun c1 => ?_)) (fun c0 => ?_)))⟩
  ·have d:isD c=true:=Qfn.2 ⟨by omega,by omega⟩
   refine Num.n (by omega) (App2.i (app8 (by simp;omega)) (Num.n (by omega) (next _ ?_ (by unfold okC;rw[d];rfl))))
   rw[dg_D d]
  ·have d:isD c=false:=isD_f.2 (by omega)
   refine Br.i (fun c2=>Br.i (fun c3 => ?_) (fun c3=>Lf.i (bad ?_))) (fun c2=>Lf.i (bad ?_))
   ·refine Num.n (by omega) (Num.n (by omega) (Quo'.i ⟨by omega,by omega,by show _≤(9223372036854775807:Int);omega⟩ (Num.n (by omega) (Num.n (by omega) (Rem'.i ⟨by omega,by omega⟩ (App2.i (app8 (by simp;omega)) (Num.n (by omega) (next _ ?_ ?_))))))))
    ·rw[dg_U d]
    ·unfold okC;rw[isU_iff.2 ⟨by omega,by omega⟩];simp
   ·unfold okC;rw[d,isU_f.2 (by omega)];rfl
   ·unfold okC;rw[d,isU_f.2 (by omega)];rfl
  ·have d:isD c=false:=isD_f.2 (by omega)
   refine Br.i (fun c2=>absurd c2 (by omega)) (fun c2=>Lf.i (bad ?_))
   unfold okC;rw[d,isU_f.2 (by omega)];rfl
theorem digits_r {s:ByteArray}(hl:s.size≤1000):zbo_r s (digS (by8 s)):=by
 refine zbo_of ?_
 unfold zbo_w
 refine digits_l hl s.size 0 [] (by omega) (by simp) (fun k=>Rt.i ?_) (fun k=>Rt.i ?_)
 ·rw[List.drop_zero] at k;unfold digS;rw[if_neg (by rw[k];decide)]
 ·rw[List.drop_zero] at k;unfold digS;rw[if_pos k];simp
def shapeS (b:List Int):Bool:=b.all okC&&decide (65≤b.getD 0 0∧65≤b.getD 1 0)
theorem shaped_r {s:ByteArray}(hl:s.size=11):zdw_r s (shapeS (by8 s)):=by
 refine zdw_of ?_
 unfold zdw_w
 have h0:0<(by8 s).length:=by rw[Qbf];omega
 have h1:1<(by8 s).length:=by rw[Qbf];omega
 have e0:(by8 s).getD 0 0=(by8 s)[0]:=by rw[List.getD_eq_getElem?_getD,List.getElem?_eq_getElem h0];rfl
 have e1:(by8 s).getD 1 0=(by8 s)[1]:=by rw[List.getD_eq_getElem?_getD,List.getElem?_eq_getElem h1];rfl
 refine⟨_,digits_r (by omega),?_⟩
 unfold shapeS digS
 rw[e0,e1]
 cases k:(by8 s).all okC with
 |false=>exact Br.f rfl (Rt.i rfl)
 |true=>
  refine Br.t rfl (Br.pos (by omega) ⟨_,StrG.i (by omega) (Qe2 h0) (Br.i (fun c=>⟨_,StrG.i (by omega) (Qe2 h1) (Rt.i ?_)⟩) (fun c=>Rt.i ?_))⟩)
  ·rw[Bool.true_and];exact decide_eq_decide.2 ⟨fun q=>⟨c,q⟩,fun q=>q.2⟩
  ·rw[Bool.true_and];exact(decide_eq_false (fun q=>c q.1)).symm
def shP (b:List Int)(i:Nat):Bool:=(b.zipIdx i).all (fun p=>isU p.1||(decide (2≤p.2)&&isD p.1))
theorem shape_l {s:ByteArray}(hl:s.size≤1000){Q0 Q1:Unit→Prop}:∀(n i:Nat),n+i=s.size→(shP ((by8 s).drop i) i=false→Q0 ())→(shP ((by8 s).drop i) i=true→Q1 ())→zdg_L0 s Q0 Q1 (i:Int):=by
 intro n
 induction n with
 |zero=>
  intro i h q0 q1
  refine zdg_l0 ?_
  unfold zdg_w0
  rw[List.drop_of_length_le (by rw[Qbf];omega)] at q1
  exact Br.neg (by omega) (Lf.i (q1 rfl))
 |succ n ih=>
  intro i h q0 q1
  have hs:i<(by8 s).length:=by rw[Qbf];omega
  refine zdg_l0 ?_
  unfold zdg_w0
  rw[List.drop_eq_getElem_cons hs] at q0 q1
  unfold shP at q0 q1
  rw[List.zipIdx_cons,List.all_cons] at q0 q1
  have at8:=Qe2 hs
  generalize (by8 s)[i]=c at at8 q0 q1
  have next:(isU c||(decide (2≤i)&&isD c))=true→zdg_L0 s Q0 Q1 ((i+1:Nat):Int):=fun e=>
   ih (i+1) (by omega) (fun k=>q0 (by show((isU c||(decide (2≤i)&&isD c))&&_)=false;rw[e];exact k)) (fun k=>q1 (by show((isU c||(decide (2≤i)&&isD c))&&_)=true;rw[e];exact k))
  have bad:(isU c||(decide (2≤i)&&isD c))=false→Q0 ():=fun e=>q0 (by show((isU c||(decide (2≤i)&&isD c))&&_)=false;rw[e];rfl)
  refine Br.pos (by omega) ⟨c,StrG.i (by omega) at8 ⟨_,upper_r c,?_⟩⟩
  cases hu:isU c with
  |true=>exact Br.f rfl (Num.n (by omega) (next (by rw[hu];rfl)))
  |false=>
   refine Br.t rfl (Br.i (fun c2=>Lf.i (bad ?_)) (fun c2=>StrG.i (by omega) at8 ⟨_,digit_r c,?_⟩))
   ·rw[hu,decide_eq_false (by omega)];rfl
   ·cases hd:isD c with
    |true=>exact Br.f rfl (Num.n (by omega) (next (by rw[hu,hd,decide_eq_true (by omega)];rfl)))
    |false=>exact Br.t rfl (Lf.i (bad (by rw[hu,hd];simp)))
theorem shP_ge:∀(b:List Int)(i:Nat),2≤i→shP b i=b.all okC
 |[],_,_=>rfl
 |c::b,i,h=>by
  have:=shP_ge b (i+1) (by omega)
  unfold shP at this ⊢
  rw[List.zipIdx_cons,List.all_cons,this,List.all_cons,decide_eq_true h,Bool.true_and]
  unfold okC
  rw[Bool.or_comm (isU c)]
theorem shP_0 {b:List Int}(h:2≤b.length):shP b 0=shapeS b:=by
 match b,h with
 |x::y::b,_=>
  have e:=shP_ge b 2 (by omega)
  have hx:∀z:Int,(isU z||(decide (2≤0)&&isD z))=(okC z&&decide (65≤z)):=by
   intro z
   unfold okC
   cases hu:isU z with
   |true=>have:=isU_iff.1 hu;rw[decide_eq_true (by omega:65≤z)];simp
   |false=>
    cases hd:isD z with
    |false=>rfl
    |true=>have:=Qfn.1 hd;rw[decide_eq_false (by omega:¬ 65≤z)];simp
  have hy:∀z:Int,(isU z||(decide (2≤1)&&isD z))=(okC z&&decide (65≤z)):=hx
  have e2:shP (x::y::b) 0=((isU x||(decide (2≤0)&&isD x))&&((isU y||(decide (2≤1)&&isD y))&&shP b 2)):=rfl
  rw[e2,hx,hy,e]
  unfold shapeS
  rw[List.all_cons,List.all_cons]
  show _=(okC x&&(okC y&&b.all okC)&&decide (65≤x∧65≤y))
  rw[Bool.decide_and]
  cases okC x<;>cases okC y<;>cases b.all okC<;>cases decide (65≤x)<;>cases decide (65≤y)<;>rfl
theorem shape_r {s:ByteArray}(hl:s.size=11):zdg_r s (shapeS (by8 s)):=by
 refine zdg_of ?_
 unfold zdg_w
 rw[←shP_0 (by rw[Qbf];omega)]
 refine shape_l (by omega) s.size 0 (by omega) (fun k=>Rt.i ?_) (fun k=>Rt.i ?_)
 ·rw[List.drop_zero] at k;rw[k]
 ·rw[List.drop_zero] at k;rw[k,hl];rfl
def d2 (d:Int):Int:=(d*2)/10+(d*2)%10
def tot:List Int→Bool→Int
 |[],_=>0
 |d::l,t=>(if t then d2 d else d)+tot l (!t)
theorem put_bd {d:Int}{t:Bool}(h:0≤d∧d≤9):0≤(if t then d2 d else d)∧(if t then d2 d else d)≤9:=by
 cases t
 ·exact h
 ·show 0≤d2 d∧d2 d≤9
  unfold d2;omega
theorem total_1_r {d c1:Int}{t:Bool}(h:0≤d∧d≤9) (h1:0≤c1∧c1≤1000000):zfs_r d t c1 (!t,c1+(if t then d2 d else d)):=by
 refine zfs_of ?_
 unfold zfs_w
 cases t
 ·exact Br.f rfl (Num.n (by omega) (Rt.i rfl))
 ·exact Br.t rfl (Num.n (by omega) (Quo'.i ⟨by omega,by omega,by show _≤(9223372036854775807:Int);omega⟩ (Rem'.i ⟨by omega,by omega⟩ (Num.n (by omega) (Num.n (by omega) (Rt.i rfl))))))
theorem itotal_l {s:ByteArray}(hl:s.size≤1000) (ok:(by8 s).all okC=true){Q:Int→Prop}:∀(k:Nat)(t:Bool)(sum:Int),k≤s.size→0≤sum→sum≤20*((s.size:Int)-k)→
  Q (sum+tot (((by8 s).take k).flatMap dg).reverse t)→zdy_L0 s Q ((k:Int)-1) t sum:=by
 intro k
 induction k with
 |zero=>
  intro t sum hk h0 h1 q
  refine zdy_l0 ?_
  unfold zdy_w0
  exact Br.neg (by omega) (Lf.i (by simpa[tot] using q))
 |succ k ih=>
  intro t sum hk h0 h1 q
  have hs:k<(by8 s).length:=by rw[Qbf];omega
  have e:((k+1:Nat):Int)-1=(k:Int):=by omega
  rw[e]
  refine zdy_l0 ?_
  unfold zdy_w0
  have okc:okC (by8 s)[k]=true:=List.all_eq_true.1 ok _ (List.getElem_mem hs)
  rw[List.take_succ_eq_append_getElem hs,List.flatMap_append,List.reverse_append] at q
  have at8:=Qe2 hs
  generalize (by8 s)[k]=c at at8 q okc
  have bd:=dg_bd okc
  rw[show [c].flatMap dg=dg c by simp] at q
  refine Br.pos (by omega) ⟨c,StrG.i (by omega) at8 ⟨_,digit_r c,?_⟩⟩
  cases hd:isD c with
  |true=>
   have cd:=Qfn.1 hd
   rw[dg_D hd] at q bd
   have b1:0≤c-48∧c-48≤9:=by omega
   have p1:=put_bd (t:=t) b1
   refine Br.t rfl (StrG.i (by omega) at8 ?_)
   rw[u8n (by omega)]
   refine Num.n (by omega) ⟨_,total_1_r b1 (by omega),Num.n (by omega) (ih _ _ (by omega) (by omega) (by omega) ?_)⟩
   rw[List.reverse_singleton,List.singleton_append,tot] at q
   rw[Int.add_assoc];exact q
  |false=>
   rw[dg_U hd] at q bd
   have cu:65≤c∧c≤90:=isU_iff.1 (by unfold okC at okc;rw[hd] at okc;simpa using okc)
   have b1:0≤(c-65+10)%10∧(c-65+10)%10≤9:=by omega
   have b2:0≤(c-65+10)/10∧(c-65+10)/10≤9:=by omega
   have p1:=put_bd (t:=t) b1
   have p2:=put_bd (t := !t) b2
   refine Br.f rfl (StrG.i (by omega) at8 ?_)
   rw[u8n (by omega)]
   refine Num.n (by omega) (Num.n (by omega) (Rem'.i ⟨by omega,by omega⟩ ⟨_,total_1_r b1 (by omega),Quo'.i ⟨by omega,by omega,by show _≤(9223372036854775807:Int);omega⟩ ⟨_,total_1_r b2 (by simp only;omega),Num.n (by omega) (ih _ _ (by omega) (by simp only;omega) (by simp only;omega) ?_)⟩⟩))
   rw[show [(c-65+10)/10,(c-65+10)%10].reverse=[(c-65+10)%10,(c-65+10)/10] from rfl,List.cons_append,List.singleton_append,tot,tot] at q
   simp only[Int.add_assoc]
   exact q
theorem total_r {s:ByteArray}(hl:s.size≤1000) (ok:(by8 s).all okC=true) (t:Bool):zdy_r s t (tot ((by8 s).flatMap dg).reverse t):=by
 refine zdy_of ?_
 unfold zdy_w
 refine Num.n (by omega) (itotal_l hl ok s.size t 0 (Nat.le_refl _) (by omega) (by omega) (Rt.i ?_))
 rw[List.take_of_length_le (by rw[Qbf];exact Nat.le_refl _)]
 omega
theorem right_l {l:List Int}{b:Bool}(hl:l.length≤3000) (bd:∀d∈l,0≤d∧d≤9){Q:Int→Prop}:∀(n i:Nat)(sum:Int),n+i=l.length→0≤sum→sum≤20*i→Q (sum+tot (l.reverse.drop i) (i%2==1))→zcj_L0 (l,b) Q sum (i:Int):=by
 intro n
 induction n with
 |zero=>
  intro i sum h h0 h1 q
  refine zcj_l0 ?_
  unfold zcj_w0
  simp only[Qab]
  rw[List.drop_of_length_le (by simp;omega)] at q
  exact Br.neg (by omega) (Lf.i (by simpa[tot] using q))
 |succ n ih=>
  intro i sum h h0 h1 q
  refine zcj_l0 ?_
  unfold zcj_w0
  simp only[Qab]
  have hs:i<l.reverse.length:=by simp;omega
  rw[List.drop_eq_getElem_cons hs,tot] at q
  have hi:l.length-1-i<l.length:=by omega
  have g:l[((l.length:Int)-1-i).toNat]? = some l.reverse[i]:=by
   rw[List.getElem_reverse,show((l.length:Int)-1-i).toNat=l.length-1-i by omega]
   exact List.getElem?_eq_getElem hi
  have bd1:=bd _ (List.mem_reverse.1 (List.getElem_mem hs))
  generalize l.reverse[i]=d at g bd1 q
  have e2:(!(i%2==1))=((i+1)%2==1):=by
   rcases Nat.mod_two_eq_zero_or_one i with k|k
   ·rw[k,show(i+1)%2=1 by omega];rfl
   ·rw[k,show(i+1)%2=0 by omega];rfl
  rw[e2] at q
  refine Br.pos (by omega) (Num.n (by omega) (Num.n (by omega) ⟨d,Got.i (Rem'.i ⟨by omega,by omega⟩ (Br.i (fun c => ?_) (fun c => ?_))) (by omega) g⟩))
  ·refine Num.n (by omega) (Quo'.i ⟨by omega,by omega,by show _≤(9223372036854775807:Int);omega⟩ (Num.n (by omega) (Rem'.i ⟨by omega,by omega⟩ (Num.n (by omega) (Num.n (by omega) (ih (i+1) _ (by omega) (by omega) (by omega) ?_))))))
   rw[show(i%2==1)=true by simp;omega,if_pos rfl] at q
   unfold d2 at q
   rw[Int.mul_comm 2 d,Int.add_assoc sum,Int.add_assoc];exact q
  ·refine Quo'.i ⟨by omega,by omega,by show _≤(9223372036854775807:Int);omega⟩ (Num.n (by omega) (Rem'.i ⟨by omega,by omega⟩ (Num.n (by omega) (Num.n (by omega) (ih (i+1) _ (by omega) (by omega) (by omega) ?_)))))
   rw[show(i%2==1)=false by simp;omega,if_neg (by decide)] at q
   rw[show sum+d/10+d%10=sum+d by omega,Int.add_assoc];exact q
theorem flat_bd {b:List Int}(ok:b.all okC=true):∀d∈b.flatMap dg,0≤d∧d≤9:=by
 intro d hd
 obtain⟨c,hc,hd⟩:=List.mem_flatMap.1 hd
 exact dg_bd (List.all_eq_true.1 ok c hc) d hd
theorem flat_len:∀(b:List Int),(b.flatMap dg).length≤2*b.length
 |[]=>by simp
 |c::b=>by
  have:=dg_len c
  have:=flat_len b
  simp only[List.flatMap_cons,List.length_append,List.length_cons];omega
theorem right_r {s:ByteArray}(hl:s.size≤1000) (ok:(by8 s).all okC=true):zcj_r s (tot ((by8 s).flatMap dg).reverse false%10==0):=by
 refine zcj_of ?_
 unfold zcj_w
 refine⟨_,digits_r hl,?_⟩
 have e:digS (by8 s)=((by8 s).flatMap dg,true):=by unfold digS;rw[if_pos ok]
 rw[e]
 have len:=flat_len (by8 s)
 rw[Qbf] at len
 refine right_l (by omega) (flat_bd ok) _ 0 0 (by rfl) (by omega) (by omega) ?_
 rw[List.drop_zero,show(0%2==1)=false from rfl,Int.zero_add]
 have nn:∀(l:List Int)(t:Bool),(∀d∈l,0≤d∧d≤9)→0≤tot l t:=by
  intro l
  induction l with
  |nil=>intro t h;exact Int.le_refl 0
  |cons d l ih=>
   intro t h
   have h1:=put_bd (t:=t) (h d (by simp))
   have h2:=ih (!t) (fun x hx=>h x (by simp[hx]))
   rw[tot];omega
 exact Br.t rfl (Rem'.i ⟨nn _ _ (fun d hd=>flat_bd ok d (List.mem_reverse.1 hd)),by omega⟩ (Rt.i rfl))
theorem tot_nn:∀(l:List Int)(t:Bool),(∀d∈l,0≤d∧d≤9)→0≤tot l t:=by
  intro l
  induction l with
  |nil=>intro t h;exact Int.le_refl 0
  |cons d l ih=>
   intro t h
   have h1:=put_bd (t:=t) (h d (by simp))
   have h2:=ih (!t) (fun x hx=>h x (by simp[hx]))
   rw[tot];omega
def totS (b:List Int):Int:=tot ((b.take 11).flatMap dg).reverse true
def checkS (s:ByteArray):Int:=if s.size≠12 then 11 else if isD ((by8 s).getD 11 0)=false then 11 else if shapeS ((by8 s).take 11)=false then 11 else if (totS (by8 s)+((by8 s).getD 11 0-48))%10≠0 then 12 else 0
theorem Digit_r {s:ByteArray}(hl:s.size=11):zgm_r s (if shapeS (by8 s) then(48+(10-(tot ((by8 s).flatMap dg).reverse true)%10)%10,0) else(0,11)):=by
 refine zgm_of ?_
 unfold zgm_w
 refine⟨_,shape_r hl,?_⟩
 cases k:shapeS (by8 s) with
 |false=>exact Br.t rfl (Rt.i rfl)
 |true=>
  have ok:(by8 s).all okC=true:=by unfold shapeS at k;simp only[Bool.and_eq_true] at k;exact k.1
  have t0:=tot_nn ((by8 s).flatMap dg).reverse true (fun d hd=>flat_bd ok d (List.mem_reverse.1 hd))
  refine Br.f rfl ⟨_,total_r (by omega) ok true,Rem'.i ⟨t0,by omega⟩ (Num.n (by omega) (Rem'.i ⟨by omega,by omega⟩ (Num.n (by omega) (Rt.i ?_))))⟩
  rw[u8n (by omega)];rfl
theorem size_cut {s:ByteArray}(h:s.size=12):(s.extract 0 ((11:Int).toNat)).size=11:=by
 rw[←Qbf,show(11:Int).toNat=11 from rfl,by8_cut,List.length_take,Qbf];omega
theorem ICheck_r (s:ByteArray):zgb_r s (checkS s):=by
 refine zgb_of ?_
 unfold zgb_w checkS
 refine Br.i (fun c=>Rt.i (by rw[if_pos (by omega)])) (fun c => ?_)
 rw[if_neg (by omega)]
 have h11:11<(by8 s).length:=by rw[Qbf];omega
 have e:(by8 s).getD 11 0=(by8 s)[11]:=by rw[List.getD_eq_getElem?_getD,List.getElem?_eq_getElem h11];rfl
 rw[e]
 refine⟨_,StrG.i (by omega) (Qe2 h11) ⟨_,digit_r _,?_⟩⟩
 cases hd:isD (by8 s)[11] with
 |false=>exact Br.t rfl (Rt.i rfl)
 |true=>
  rw[if_neg (by decide)]
  have d1:=Qfn.1 hd
  refine Br.f rfl (CutSh.i ⟨by omega,by omega⟩ ⟨_,Digit_r (size_cut (by omega)),?_⟩)
  rw[show(11:Int).toNat=11 from rfl,by8_cut]
  unfold totS
  cases k:shapeS ((by8 s).take 11) with
  |false=>rw[if_neg (by decide),if_pos rfl];exact Br.neg (by decide) (Rt.i rfl)
  |true=>
   rw[if_pos rfl,if_neg (by decide)]
   have t0:0≤tot (((by8 s).take 11).flatMap dg).reverse true:=by
    refine tot_nn _ _ (fun d hd=>flat_bd ?_ d (List.mem_reverse.1 hd))
    unfold shapeS at k;simp only[Bool.and_eq_true] at k;exact k.1
   generalize tot (((by8 s).take 11).flatMap dg).reverse true=T at t0
   refine Br.pos rfl (StrG.i (by omega) (Qe2 h11) (Br.i (fun c=>Rt.i ?_) (fun c=>Rt.i ?_)))
   ·have c:48+(10-T%10)%10≠(by8 s)[11]:=c
    rw[if_pos (by omega)]
   ·have c:48+(10-T%10)%10=(by8 s)[11]:=Decidable.not_not.1 c
    rw[if_neg (by omega)]
theorem RCheck_r (s:ByteArray):zdo_r s (checkS s):=by
 refine zdo_of ?_
 unfold zdo_w checkS
 refine Br.i (fun c=>Rt.i (by rw[if_pos (by omega)])) (fun c => ?_)
 rw[if_neg (by omega)]
 have h11:11<(by8 s).length:=by rw[Qbf];omega
 have e:(by8 s).getD 11 0=(by8 s)[11]:=by rw[List.getD_eq_getElem?_getD,List.getElem?_eq_getElem h11];rfl
 rw[e]
 refine⟨_,StrG.i (by omega) (Qe2 h11) (Br.i (fun c1=>Rt.i ?_) (fun c1=>StrG.i (by omega) (Qe2 h11) (Br.i (fun c2=>Rt.i ?_) (fun c2 => ?_))))⟩
 ·rw[if_pos (isD_f.2 (by omega))]
 ·rw[if_pos (isD_f.2 (by omega))]
 ·have hd:isD (by8 s)[11]=true:=Qfn.2 ⟨by omega,by omega⟩
  rw[hd,if_neg (by decide)]
  refine CutSh.i ⟨by omega,by omega⟩ ⟨_,shaped_r (size_cut (by omega)),?_⟩
  rw[show(11:Int).toNat=11 from rfl,by8_cut]
  cases k:shapeS ((by8 s).take 11) with
  |false=>exact Br.t rfl (Rt.i rfl)
  |true=>
   rw[if_neg (by decide)]
   have ok1:((by8 s).take 11).all okC=true:=by unfold shapeS at k;simp only[Bool.and_eq_true] at k;exact k.1
   have split:by8 s=(by8 s).take 11++[(by8 s)[11]]:=by
    rw[←List.take_succ_eq_append_getElem h11,List.take_of_length_le (by rw[Qbf];omega)]
   have ok:(by8 s).all okC=true:=by
    rw[split,List.all_append,ok1,Bool.true_and,List.all_cons,List.all_nil,Bool.and_true]
    unfold okC;rw[hd];rfl
   have eT:tot ((by8 s).flatMap dg).reverse false=((by8 s)[11]-48)+totS (by8 s):=by
    unfold totS
    conv=>lhs;rw[split]
    rw[List.flatMap_append,List.reverse_append,show [(by8 s)[11]].flatMap dg=dg (by8 s)[11] by simp,dg_D hd,List.reverse_singleton,List.singleton_append,tot]
    rfl
   refine Br.f rfl ⟨_,right_r (by omega) ok,?_⟩
   rw[eT]
   refine Br.i (fun c=>Rt.i ?_) (fun c=>Rt.i ?_)
   ·rw[if_pos (by rw[Int.add_comm];exact c)]
   ·rw[if_neg (by rw[Int.add_comm];exact c)]
def codes:List ByteArray:=[⟨#[69,85,82]⟩,⟨#[85,83,68]⟩,⟨#[71,66,80]⟩,⟨#[67,72,70]⟩,⟨#[74,80,89]⟩,⟨#[83,69,75]⟩,⟨#[78,79,75]⟩,⟨#[68,75,75]⟩]
def curS (s:ByteArray):Bool:=codes.any (fun c=>decide (c=s))
theorem Currency_r (s:ByteArray):zew_r s (curS s):=by
 refine zew_of ?_
 unfold zew_w curS codes
 simp only[List.any_cons,List.any_nil]
 refine Br.i (fun c=>Br.pos c (Rt.i (by rw[decide_eq_true c.symm];rfl))) (fun c => ?_)
 rw[decide_eq_false (fun e=>c e.symm),Bool.false_or]
 refine Br.i (fun c=>Br.pos c (Rt.i (by rw[decide_eq_true c.symm];rfl))) (fun c => ?_)
 rw[decide_eq_false (fun e=>c e.symm),Bool.false_or]
 refine Br.i (fun c=>Br.pos c (Rt.i (by rw[decide_eq_true c.symm];rfl))) (fun c => ?_)
 rw[decide_eq_false (fun e=>c e.symm),Bool.false_or]
 refine Br.i (fun c=>Br.pos c (Rt.i (by rw[decide_eq_true c.symm];rfl))) (fun c => ?_)
 rw[decide_eq_false (fun e=>c e.symm),Bool.false_or]
 refine Br.i (fun c=>Br.pos c (Rt.i (by rw[decide_eq_true c.symm];rfl))) (fun c => ?_)
 rw[decide_eq_false (fun e=>c e.symm),Bool.false_or]
 refine Br.i (fun c=>Br.pos c (Rt.i (by rw[decide_eq_true c.symm];rfl))) (fun c => ?_)
 rw[decide_eq_false (fun e=>c e.symm),Bool.false_or]
 refine Br.i (fun c=>Br.pos c (Rt.i (by rw[decide_eq_true c.symm];rfl))) (fun c => ?_)
 rw[decide_eq_false (fun e=>c e.symm),Bool.false_or]
 refine Br.i (fun c=>Rt.i (by rw[decide_eq_true c.symm];rfl)) (fun c=>Rt.i ?_)
 rw[decide_eq_false (fun e=>c e.symm)];rfl
theorem codes_at:∀i:Nat,(h:i<8)→(⟨#[69,85,82,32,85,83,68,32,71,66,80,32,67,72,70,32,74,80,89,32,83,69,75,32,78,79,75,32,68,75,75,32]⟩:ByteArray).extract (4*i) (4*i+3)=codes[i]'(by show i<8;exact h)
 |0,_=>rfl
 |1,_=>rfl
 |2,_=>rfl
 |3,_=>rfl
 |4,_=>rfl
 |5,_=>rfl
 |6,_=>rfl
 |7,_=>rfl
 |n+8,h=>absurd h (by omega)
theorem cur_l {s:ByteArray}{Q0 Q1:Unit→Prop}:∀(n i:Nat),n+i=8→((codes.drop i).any (fun c=>decide (c=s))=true→Q0 ())→((codes.drop i).any (fun c=>decide (c=s))=false→Q1 ())→zbl_L0 s Q0 Q1 ((4*i:Nat):Int):=by
 intro n
 induction n with
 |zero=>
  intro i h q0 q1
  refine zbl_l0 ?_
  unfold zbl_w0
  exact Br.neg (by omega) (Lf.i (q1 (by rw[List.drop_of_length_le (by show 8≤i;omega)];rfl)))
 |succ n ih=>
  intro i h q0 q1
  refine zbl_l0 ?_
  unfold zbl_w0
  have hi:i<codes.length:=by show i<8;omega
  rw[List.drop_eq_getElem_cons hi,List.any_cons] at q0 q1
  refine Br.pos (by omega) (Num.n (by omega) (CutSlh.i ⟨by omega,by omega,by show _≤((32:Nat):Int);omega⟩ ?_))
  rw[show((4*i:Nat):Int).toNat=4*i by omega,show(((4*i:Nat):Int)+3).toNat=4*i+3 by omega,codes_at i (by omega)]
  refine Br.i (fun c=>Lf.i (q0 (by rw[decide_eq_true c];rfl))) (fun c=>Num.n (by omega) ?_)
  rw[show((4*i:Nat):Int)+4=((4*(i+1):Nat):Int) by omega]
  exact ih (i+1) (by omega) (fun k=>q0 (by rw[k];simp)) (fun k=>q1 (by rw[k,decide_eq_false c];rfl))
theorem RCurrency_r (s:ByteArray):zbl_r s (curS s):=by
 refine zbl_of ?_
 unfold zbl_w
 exact cur_l 8 0 rfl (fun k=>Rt.i k.symm) (fun k=>Rt.i k.symm)
def assetS (a:zaf):Int:=if checkS a.ISIN≠0 then checkS a.ISIN else if curS a.Currency=false then 11 else if a.Issuer<0 then 1 else if a.Issuer>9999 then 1 else if a.Rating<0 then 1 else if a.Rating>20 then 1 else if a.Maturity<0 then 10 else if a.Maturity>200000 then 10 else 0
theorem Asset_r (a:zaf):zfp_r a (assetS a):=by
 refine zfp_of ?_
 unfold zfp_w assetS
 refine⟨_,ICheck_r _,Br.i (fun c=>Rt.i (by rw[if_pos c])) (fun c => ?_)⟩
 rw[if_neg c]
 refine⟨_,Currency_r _,?_⟩
 cases k:curS a.Currency with
 |false=>exact Br.t rfl (Rt.i rfl)
 |true=>
  refine Br.f rfl ?_
  rw[if_neg (by decide)]
  refine Br.i (fun c=>Rt.i (by rw[if_pos c])) (fun c => ?_)
  rw[if_neg c]
  refine Br.i (fun c=>Rt.i (by rw[if_pos c])) (fun c => ?_)
  rw[if_neg c]
  refine Br.i (fun c=>Rt.i (by rw[if_pos c])) (fun c => ?_)
  rw[if_neg c]
  refine Br.i (fun c=>Rt.i (by rw[if_pos c])) (fun c => ?_)
  rw[if_neg c]
  refine Br.i (fun c=>Rt.i (by rw[if_pos c])) (fun c => ?_)
  rw[if_neg c]
  exact Br.i (fun c=>Rt.i (by rw[if_pos c])) (fun c=>Rt.i (by rw[if_neg c]))
theorem Qgn (a:zaf):zdf_r a (assetS a):=by
 refine zdf_of ?_
 unfold zdf_w assetS
 refine⟨_,RCheck_r _,Br.i (fun c=>⟨_,RCheck_r _,Rt.i (by rw[if_pos c])⟩) (fun c => ?_)⟩
 rw[if_neg c]
 refine⟨_,RCurrency_r _,?_⟩
 cases k:curS a.Currency with
 |false=>exact Br.t rfl (Rt.i rfl)
 |true=>
  refine Br.f rfl ?_
  rw[if_neg (by decide)]
  refine Br.i (fun c=>Rt.i (by rw[if_pos c])) (fun c => ?_)
  rw[if_neg c]
  refine Br.i (fun c=>Rt.i (by rw[if_pos c])) (fun c => ?_)
  rw[if_neg c]
  refine Br.i (fun c=>Rt.i (by rw[if_pos c])) (fun c => ?_)
  rw[if_neg c]
  refine Br.i (fun c=>Rt.i (by rw[if_pos c])) (fun c => ?_)
  rw[if_neg c]
  refine Br.i (fun c=>Rt.i (by rw[if_pos c])) (fun c => ?_)
  rw[if_neg c]
  exact Br.i (fun c=>Rt.i (by rw[if_pos c])) (fun c=>Rt.i (by rw[if_neg c]))
theorem Qgo {a:zaf}(h:assetS a=0):0≤a.Issuer∧a.Issuer≤9999∧0≤a.Rating∧a.Rating≤20∧0≤a.Maturity∧a.Maturity≤200000:=by
 unfold assetS at h
 split at h
 ·rename_i k;exact absurd h k
 split at h
 ·cases h
 split at h
 ·cases h
 split at h
 ·cases h
 split at h
 ·cases h
 split at h
 ·cases h
 split at h
 ·cases h
 split at h
 ·cases h
 omega
end Go.Proofs.YtjlkmdmaimednaaGreat.Pure
namespace Go.Proofs.YtjlkmdmaimednaaGreat.Pure
open Go Go.Ab Go.Proofs.YtjlkmdmaimednaaGreat.R
theorem app56 {n:Nat}(h:n≤1000000):App 56 n:=⟨by unfold maxLen;omega,by omega⟩
theorem app64 {n:Nat}(h:n≤1000000):App 64 n:=⟨by unfold maxLen;omega,by omega⟩
theorem InsA_r {a:List zaf}{x:zaf}{n:Nat}(h1:n≤a.length) (hb:a.length≤1000):InsR Tryz.prog 53 5 zaf.enc a (n:Int) [x] (a.take n++x::a.drop n):=by
 by_cases h:n<a.length
 ·have:=Con_insA (rows:=a.map zaf.enc) (x:=zaf.enc x) (i:=n) (by simpa using h) (by simp;omega) (enters_of Tryz.func53 (by kernel_rfl) rfl)
  unfold InsR
  rw[show(a.take n++x::a.drop n).map zaf.enc=(a.map zaf.enc).take n++[zaf.enc x]++(a.map zaf.enc).drop n by simp[List.map_take,List.map_drop]]
  exact this
 ·have e:n=a.length:=by omega
  subst e
  have:zcr_r a (a.length:Int) [x] (a++[x]):=by
   refine zcr_of ?_
   unfold zcr_w
   exact CutX.i ⟨by omega,by omega⟩ (Br.neg (by simp[lenM]) (Br.pos (by simp[lenM]) (App2.i (app56 (by simp;omega)) (Rt.i rfl))))
  rw[List.take_length,List.drop_length]
  exact this
theorem InsI_r {a:List Int}{x:Int}{n:Nat}(h1:n≤a.length) (hb:a.length≤1000):InsR Tryz.prog 54 1 eN a (n:Int) [x] (a.take n++x::a.drop n):=by
 by_cases h:n<a.length
 ·have:=Con_insI (rows:=a.map eN) (x:=eN x) (i:=n) (by simpa using h) (by simp;omega) (enters_of Tryz.func54 (by kernel_rfl) rfl)
  unfold InsR
  rw[show(a.take n++x::a.drop n).map eN=(a.map eN).take n++[eN x]++(a.map eN).drop n by simp[List.map_take,List.map_drop]]
  exact this
 ·have e:n=a.length:=by omega
  subst e
  have:zef_r a (a.length:Int) [x] (a++[x]):=by
   refine zef_of ?_
   unfold zef_w
   exact CutX.i ⟨by omega,by omega⟩ (Br.neg (by simp[lenM]) (Br.pos (by simp[lenM]) (App2.i (app8 (by simp;omega)) (Rt.i rfl))))
  rw[List.take_length,List.drop_length]
  exact this
abbrev KN:=zad
def OrdB (r:List KN):Prop:=r.Pairwise (fun x y=>sLt x.A.ISIN y.A.ISIN)
def bk (r:List KN):zaw:=⟨r.map (·.A),r.map (·.Price),true⟩
theorem place_1A (x:zaf) (s:ByteArray):zer_r x s (cmpB x.ISIN s):=by
 refine zer_of ?_
 unfold zer_w
 exact⟨_,Qbz _ _,Rt.i rfl⟩
theorem bsA_l {A B:List zaf}{s:ByteArray}(hA:∀y∈A,sLt y.ISIN s) (hB:∀y∈B,¬ sLt y.ISIN s) (hl:(A++B).length≤1000000){Q:Int→Prop}(q:Q (A.length:Nat)):
  ∀(n i j:Nat),j-i≤n→i≤A.length→A.length≤j→j≤(A++B).length→zam_L0 (A++B) s Q i j:=by
 intro n
 induction n with
 |zero=>
  intro i j hn hi hj hjl
  have e:i=A.length:=by omega
  refine zam_l0 ?_
  unfold zam_w0
  exact Br.neg (by omega) (Lf.i (by rw[e];exact q))
 |succ n ih=>
  intro i j hn hi hj hjl
  refine zam_l0 ?_
  unfold zam_w0
  by_cases c:i<j
  ·rw[half (i:=i) (j:=j) (by omega),show(((i+j)/2:Nat):Int)+1=(((i+j)/2+1:Nat):Int) by omega]
   have hk:(i+j)/2<(A++B).length:=by omega
   refine Br.pos (by omega) (Num.n (by omega) ⟨(A++B)[(i+j)/2],Got.i ⟨_,place_1A _ _,Br.i (fun c1=>Num.n (by omega) ?_) (fun c1 => ?_)⟩ (by omega) (show(A++B)[(i+j)/2]? = _ from List.getElem?_eq_getElem hk)⟩)
   ·have c1:=cmpB_lt.1 c1
    have:(i+j)/2<A.length:=Nat.lt_of_not_le fun h=>by
     refine hB _ ?_ c1
     rw[List.getElem_append_right h];exact List.getElem_mem _
    exact ih _ _ (by omega) (by omega) hj hjl
   ·have c1:¬ sLt ((A++B)[(i+j)/2]).ISIN s:=fun h=>c1 (cmpB_lt.2 h)
    have:A.length≤(i+j)/2:=Nat.le_of_not_lt fun h=>by
     refine c1 (hA _ ?_)
     rw[List.getElem_append_left h];exact List.getElem_mem _
    exact ih _ _ (by omega) hi this (by omega)
  ·have e:i=A.length:=by omega
   exact Br.neg (by omega) (Lf.i (by rw[e];exact q))
def hitK (s:ByteArray):List KN→Bool
 |[]=>false
 |y::_=>decide (y.A.ISIN=s)
theorem placeK {A B:List KN}{s:ByteArray}(hA:∀y∈A,sLt y.A.ISIN s) (hB:∀y∈B,¬ sLt y.A.ISIN s) (hl:(A++B).length≤1000000){p:List Int}{m:Bool}:zej_r ⟨(A++B).map (·.A),p,m⟩ s ((A.length:Nat),hitK s B):=by
 refine zej_of ?_
 unfold zej_w
 refine⟨((A.length:Nat),hitK s B),zam_of ?_,Rt.i rfl⟩
 unfold zam_w
 rw[Qab]
 have hA':∀y∈A.map (·.A),sLt y.ISIN s:=by
  intro y hy;obtain⟨z,hz,rfl⟩:=List.mem_map.1 hy;exact hA z hz
 have hB':∀y∈B.map (·.A),¬ sLt y.ISIN s:=by
  intro y hy;obtain⟨z,hz,rfl⟩:=List.mem_map.1 hy;exact hB z hz
 show zam_L0 ((A++B).map (·.A)) s _ 0 ((((A++B).map (·.A)).length:Nat):Int)
 rw[List.map_append]
 have la:(A.map (·.A)).length=A.length:=by simp
 refine bsA_l hA' hB' (by simpa using hl) ?_ (A.map (·.A)++B.map (·.A)).length 0 (A.map (·.A)++B.map (·.A)).length (by omega) (by omega) (by simp) (Nat.le_refl _)
 rw[la]
 cases B with
 |nil=>exact Br.neg (by simp) (Rt.i rfl)
 |cons y B=>
  refine Br.pos (by simp;omega) ⟨y.A,Got.i ⟨_,place_1A _ _,Rt.i ?_⟩ (by omega) (by show(A.map (·.A)++(y::B).map (·.A))[((A.length:Nat):Int).toNat]? = _;rw[Int.toNat_natCast,List.getElem?_append_right (by simp)];simp)⟩
  unfold hitK
  congr 1
  rw[Bool.eq_iff_iff]
  simp[cmpB_eq]
theorem splitK (s:ByteArray):∀(l:List KN),OrdB l→∃A B,l=A++B∧(∀y∈A,sLt y.A.ISIN s)∧(∀y∈B,¬ sLt y.A.ISIN s)
 |[],_=>⟨[],[],rfl,by simp,by simp⟩
 |y::l,h=>by
  obtain⟨h1,h2⟩:=List.pairwise_cons.1 h
  by_cases c:sLt y.A.ISIN s
  ·obtain⟨A,B,e,hA,hB⟩:=splitK s l h2
   refine⟨y::A,B,by rw[e];rfl,fun z hz => ?_,hB⟩
   rcases List.mem_cons.1 hz with rfl|hz
   ·exact c
   ·exact hA z hz
  ·refine⟨[],y::l,rfl,by simp,fun z hz => ?_⟩
   rcases List.mem_cons.1 hz with rfl|hz
   ·exact c
   ·exact fun k=>c (Qcx (h1 z hz) k)
def findG (s:ByteArray):List KN→Nat→Int
 |[],_ => -1
 |y::l,i=>if y.A.ISIN=s then i else findG s l (i+1)
theorem find_l {a:List KN}{s:ByteArray}(hl:a.length≤1000000){P:Int→Prop}{Q0:Int→Prop}{Q1:Unit→Prop}(q0:∀v,P v→Q0 v) (q1:P (-1)→Q1 ()):∀(n i:Nat),n+i=a.length→P (findG s (a.drop i) i)→zbx_L0 a s Q0 Q1 (i:Int):=by
 intro n
 induction n with
 |zero=>
  intro i h p
  refine zbx_l0 ?_
  unfold zbx_w0
  rw[Qab]
  rw[List.drop_of_length_le (by omega)] at p
  exact Br.neg (by omega) (Lf.i (q1 p))
 |succ n ih=>
  intro i h p
  have hs:i<a.length:=by omega
  refine zbx_l0 ?_
  unfold zbx_w0
  rw[Qab]
  rw[List.drop_eq_getElem_cons hs,findG] at p
  have g:a[(i:Int).toNat]? = some a[i]:=by simp[hs]
  refine Br.pos (by omega) ⟨a[i],Got.i (Br.i (fun c=>Lf.i (q0 _ ?_)) (fun c=>Num.n (by omega) (ih (i+1) (by omega) ?_))) (by omega) g⟩
  ·rw[if_pos c] at p;exact p
  ·rw[if_neg c] at p;exact p
theorem findG_no {s:ByteArray}:∀{l:List KN}{i:Nat},(∀y∈l,y.A.ISIN≠s)→findG s l i = -1
 |[],_,_=>rfl
 |y::l,i,h=>by rw[findG,if_neg (h y (by simp)),findG_no fun z hz=>h z (by simp[hz])]
theorem findG_A {s:ByteArray}{B:List KN}:∀{A:List KN}{i:Nat},(∀y∈A,sLt y.A.ISIN s)→findG s (A++B) i=findG s B (i+A.length)
 |[],_,_=>rfl
 |y::A,i,h=>by
  have hy:=h y (by simp)
  have:y.A.ISIN≠s:=fun e=>by rw[e] at hy;exact Qak _ hy
  rw[List.cons_append,findG,if_neg this,findG_A fun z hz=>h z (by simp[hz]),List.length_cons]
  congr 1;omega
theorem missK {s:ByteArray}{B:List KN}(h:OrdB B) (hB:∀y∈B,¬ sLt y.A.ISIN s) (c:hitK s B=false):∀z∈B,sLt s z.A.ISIN:=by
 cases B with
 |nil=>simp
 |cons y B=>
  have c:y.A.ISIN≠s:=by simpa[hitK] using c
  have h1:sLt s y.A.ISIN:=Decidable.byContradiction fun k=>c (sLt_tri (hB y (by simp)) k)
  intro z hz
  rcases List.mem_cons.1 hz with rfl|hz
  ·exact h1
  ·exact Qcx h1 ((List.pairwise_cons.1 h).1 z hz)
theorem findK {A B:List KN}{s:ByteArray}(h:OrdB (A++B)) (hA:∀y∈A,sLt y.A.ISIN s) (hB:∀y∈B,¬ sLt y.A.ISIN s) (hl:(A++B).length≤1000000):zbx_r (A++B) s (if hitK s B then((A.length:Nat):Int) else -1):=by
 refine zbx_of ?_
 unfold zbx_w
 refine find_l hl (P:=fun v=>v=if hitK s B then((A.length:Nat):Int) else -1) (fun v p=>Rt.i p) (fun p=>Rt.i p) (A++B).length 0 (by omega) ?_
 rw[List.drop_zero,findG_A hA,Nat.zero_add]
 have hb:OrdB B:=(List.pairwise_append.1 h).2.1
 cases c:hitK s B with
 |false=>
  rw[findG_no]
  ·rfl
  ·intro y hy e
   have:=missK hb hB c y hy
   rw[e] at this;exact Qak _ this
 |true=>
  cases B with
  |nil=>cases c
  |cons y B=>
   have c:y.A.ISIN=s:=by simpa[hitK] using c
   rw[findG,if_pos c];rfl
def insG (a:zaf):Bool→List KN→List KN
 |true,l=>l
 |false,[]=>[⟨a,0⟩]
 |false,y::l=>if sLt a.ISIN y.A.ISIN then ⟨a,0⟩::y::l else y::insG a false l
theorem addK_l {r:List KN}{a:zaf}{R:List KN}{Q:List KN→Prop}(hl:r.length≤1000) (hQ:Q R):∀(n i:Nat)(d:Bool)(acc:List KN),n+i=r.length→acc.length≤i+d.toNat→R=acc++insG a d (r.drop i)→
  zcc_L0 r a (fun(y3:Bool×(List KN))=>Br (!y3.1) (App2 64 zad.enc y3.2 [(⟨a,0⟩:KN)] (Q (y3.2++[(⟨a,0⟩:KN)]))) (Q y3.2)) d (i:Int) acc:=by
 intro n
 induction n with
 |zero=>
  intro i d acc h ha hR
  have hd:d.toNat≤1:=by cases d<;>decide
  refine zcc_l0 ?_
  unfold zcc_w0
  rw[Qab]
  rw[List.drop_of_length_le (by omega)] at hR
  refine Br.neg (by omega) (Lf.i ?_)
  cases d with
  |true=>exact Br.f rfl (by rw[hR] at hQ;simpa[insG] using hQ)
  |false=>exact Br.t rfl (App2.i (app64 (by simp;omega)) (by rw[hR] at hQ;simpa[insG] using hQ))
 |succ n ih=>
  intro i d acc h ha hR
  have hd:d.toNat≤1:=by cases d<;>decide
  have hs:i<r.length:=by omega
  refine zcc_l0 ?_
  unfold zcc_w0
  rw[Qab]
  rw[List.drop_eq_getElem_cons hs] at hR
  have g:r[(i:Int).toNat]? = some r[i]:=by simp[hs]
  refine Br.pos (by omega) ?_
  cases d with
  |true=>
   simp only[insG] at hR
   simp only[Bool.toNat_true] at ha
   refine Br.f rfl ⟨r[i],Got.i (App2.i (app64 (by simp;omega)) (Num.n (by omega) (ih (i+1) true _ (by omega) (by simp;omega) ?_))) (by omega) g⟩
   rw[hR];simp[insG]
  |false=>
   simp only[insG] at hR
   simp only[Bool.toNat_false] at ha
   refine Br.t rfl ⟨r[i],Got.i (Br.i (fun c0 => ?_) (fun c0 => ?_)) (by omega) g⟩
   ·rw[if_pos (Decidable.not_not.1 c0)] at hR
    refine App2.i (app64 (by simp;omega)) (Got.i (App2.i (app64 (by simp;omega)) (Num.n (by omega) (ih (i+1) true _ (by omega) (by simp;omega) ?_))) (by omega) g)
    rw[hR];simp[insG]
   ·rw[if_neg (fun k=>c0 (fun f=>f k))] at hR
    refine Got.i (App2.i (app64 (by simp;omega)) (Num.n (by omega) (ih (i+1) false _ (by omega) (by simp;omega) ?_))) (by omega) g
    rw[hR];simp
theorem insG_A {a:zaf}{B:List KN}:∀{A:List KN},(∀y∈A,sLt y.A.ISIN a.ISIN)→insG a false (A++B)=A++insG a false B
 |[],_=>rfl
 |y::A,h=>by
  rw[List.cons_append,insG,if_neg (sLt_asymm (h y (by simp))),insG_A fun z hz=>h z (by simp[hz])];rfl
theorem insG_B {a:zaf}{B:List KN}(h:∀y∈B,sLt a.ISIN y.A.ISIN):insG a false B=⟨a,0⟩::B:=by
 cases B with
 |nil=>rfl
 |cons y B=>rw[insG,if_pos (h y (by simp))]
theorem Add_both {r:List KN}(h:OrdB r) (hl:r.length≤60) (a:zaf):∃r' e,zel_r (bk r) a (e,bk r')∧zcc_r r a (r',e)∧OrdB r'∧r'.length≤r.length+1∧(∀y∈r',y∈r∨y.A=a∧assetS a=0):=by
 obtain⟨A,B,rfl,hA,hB⟩:=splitK a.ISIN r h
 have h3:=List.pairwise_append.1 h
 by_cases c:assetS a=0
 ·cases k:hitK a.ISIN B with
  |true=>
   refine⟨A++B,7,zel_of ?_,zcc_of ?_,h,by omega,fun y hy => .inl hy⟩
   ·unfold zel_w
    refine Br.f rfl ⟨_,Asset_r a,Br.neg (by simpa using c) ⟨_,placeK hA hB (by omega),Br.t k (Rt.i rfl)⟩⟩
   ·unfold zcc_w
    refine⟨_,Qgn a,Br.neg (by simpa using c) ⟨_,findK h hA hB (by omega),?_⟩⟩
    rw[k,if_pos rfl]
    exact Br.pos (by omega) (Rt.i rfl)
  |false=>
   have mk:=missK h3.2.1 hB k
   refine⟨A++⟨a,0⟩::B,0,zel_of ?_,zcc_of ?_,?_,by simp;omega,fun y hy => ?_⟩
   ·unfold zel_w
    rw[Qab]
    have la:(bk (A++B)).l.length=(A++B).length:=by simp[bk]
    have lp:(bk (A++B)).prices.length=(A++B).length:=by simp[bk]
    have hh:A.length≤(A++B).length:=by simp
    refine Br.f rfl ⟨_,Asset_r a,Br.neg (by simpa using c) ⟨_,placeK hA hB (by omega),Br.f k (Br.neg (by omega) ⟨_,InsA_r (n:=A.length) (by omega) (by omega),_,InsI_r (n:=A.length) (by omega) (by omega),Rt.i ?_⟩)⟩⟩
    simp[bk]
   ·unfold zcc_w
    rw[Qab]
    refine⟨_,Qgn a,Br.neg (by simpa using c) ⟨_,findK h hA hB (by omega),?_⟩⟩
    rw[k,if_neg (by decide)]
    refine Br.neg (by omega) (Br.neg (by omega) ?_)
    refine addK_l (R:=A++⟨a,0⟩::B) (Q:=fun v=>zcc_e (fun v_=>v_=(A++(⟨a,0⟩:KN)::B,0)) (v,0)) (by omega) (Rt.i rfl) (A++B).length 0 false [] (by omega) (by simp) ?_
    rw[List.drop_zero,List.nil_append,insG_A hA,insG_B mk]
   ·refine List.pairwise_append.2 ⟨h3.1,List.pairwise_cons.2 ⟨mk,h3.2.1⟩,fun x hx z hz => ?_⟩
    rcases List.mem_cons.1 hz with rfl|hz
    ·exact hA x hx
    ·exact h3.2.2 x hx z hz
   ·rcases List.mem_append.1 hy with hy|hy
    ·exact .inl (by simp[hy])
    ·rcases List.mem_cons.1 hy with rfl|hy
     ·exact .inr ⟨rfl,c⟩
     ·exact .inl (by simp[hy])
 ·refine⟨A++B,assetS a,zel_of ?_,zcc_of ?_,h,by omega,fun y hy => .inl hy⟩
  ·unfold zel_w
   exact Br.f rfl ⟨_,Asset_r a,Br.pos (by simpa using c) (Rt.i rfl)⟩
  ·unfold zcc_w
   exact⟨_,Qgn a,Br.pos (by simpa using c) ⟨_,Qgn a,Rt.i rfl⟩⟩
def idx (s:ByteArray)(r:List KN):Nat:=(r.takeWhile (fun y=>decide (sLt y.A.ISIN s))).length
def kn (s:ByteArray)(r:List KN):Bool:=r.any (fun y=>decide (y.A.ISIN=s))
theorem idx_s {s:ByteArray}{B:List KN}:∀{A:List KN},(∀y∈A,sLt y.A.ISIN s)→(∀y∈B,¬ sLt y.A.ISIN s)→idx s (A++B)=A.length
 |[],_,hB=>by
  unfold idx
  cases B with
  |nil=>rfl
  |cons y B=>rw[List.nil_append,List.takeWhile_cons,if_neg (by simpa using hB y (by simp))]
 |y::A,hA,hB=>by
  have:=idx_s (A:=A) (fun z hz=>hA z (by simp[hz])) hB
  unfold idx at this ⊢
  rw[List.cons_append,List.takeWhile_cons,if_pos (by simpa using hA y (by simp)),List.length_cons,this];rfl
theorem kn_s {s:ByteArray}{A B:List KN}(h:OrdB (A++B)) (hA:∀y∈A,sLt y.A.ISIN s) (hB:∀y∈B,¬ sLt y.A.ISIN s):kn s (A++B)=hitK s B:=by
 have hb:OrdB B:=(List.pairwise_append.1 h).2.1
 unfold kn
 rw[List.any_append]
 have e1:A.any (fun y=>decide (y.A.ISIN=s))=false:=by
  rw[List.any_eq_false]
  intro y hy
  have:=hA y hy
  simp only[decide_eq_true_eq]
  intro e;rw[e] at this;exact Qak _ this
 rw[e1,Bool.false_or]
 cases c:hitK s B with
 |true=>
  cases B with
  |nil=>cases c
  |cons y B=>have c:decide (y.A.ISIN=s)=true:=c;rw[List.any_cons,c];rfl
 |false=>
  rw[List.any_eq_false]
  intro y hy
  have:=missK hb hB c y hy
  simp only[decide_eq_true_eq]
  intro e;rw[e] at this;exact Qak _ this
theorem place_i {r:List KN}(h:OrdB r) (hl:r.length≤1000000) (s:ByteArray){p:List Int}{m:Bool}:zej_r ⟨r.map (·.A),p,m⟩ s ((idx s r:Nat),kn s r):=by
 obtain⟨A,B,rfl,hA,hB⟩:=splitK s r h
 rw[idx_s hA hB,kn_s h hA hB]
 exact placeK hA hB hl
theorem find_i {r:List KN}(h:OrdB r) (hl:r.length≤1000000) (s:ByteArray):zbx_r r s (if kn s r then((idx s r:Nat):Int) else -1):=by
 obtain⟨A,B,rfl,hA,hB⟩:=splitK s r h
 rw[idx_s hA hB,kn_s h hA hB]
 exact findK h hA hB hl
theorem kn_idx {r:List KN}(h:OrdB r){s:ByteArray}(c:kn s r=true):∃y,r[idx s r]? = some y∧y.A.ISIN=s:=by
 obtain⟨A,B,rfl,hA,hB⟩:=splitK s r h
 rw[kn_s h hA hB] at c
 rw[idx_s hA hB]
 cases B with
 |nil=>cases c
 |cons y B=>exact⟨y,by simp,by simpa[hitK] using c⟩
def lk (s:ByteArray)(r:List KN):Option KN:=if kn s r then r[idx s r]? else none
theorem lk_cases {r:List KN}(h:OrdB r) (s:ByteArray):(kn s r=false∧lk s r=none)∨(∃y,kn s r=true∧lk s r=some y∧r[idx s r]? = some y∧y.A.ISIN=s):=by
 unfold lk
 cases c:kn s r with
 |false=>exact .inl ⟨rfl,rfl⟩
 |true=>
  obtain⟨y,h1,h2⟩:=kn_idx h c
  exact .inr ⟨y,rfl,by rw[if_pos rfl];exact h1,h1,h2⟩
def zA:zaf:=⟨ByteArray.empty,0,0,0,ByteArray.empty⟩
def getS (s:ByteArray)(r:List KN):zaf×Bool:=match lk s r with
 |some y=>(y.A,true)
 |none=>(zA,false)
def priceS (s:ByteArray)(r:List KN):Int×Bool:=match lk s r with
 |some y=>if y.Price=0 then(0,false) else(y.Price,true)
 |none=>(0,false)
theorem Get_r {r:List KN}(h:OrdB r) (hl:r.length≤1000000) (s:ByteArray):zfn_r (bk r) s (getS s r):=by
 refine zfn_of ?_
 unfold zfn_w getS
 refine⟨_,place_i h hl s,?_⟩
 rcases lk_cases h s with⟨c,e⟩|⟨y,c,e,g,_⟩
 ·rw[e];exact Br.t (by rw[c];rfl) (Rt.i rfl)
 ·rw[e]
  have hi:idx s r<r.length:=by
   rcases Nat.lt_or_ge (idx s r) r.length with k|k
   ·exact k
   ·rw[List.getElem?_eq_none k] at g;cases g
  exact Br.f (by rw[c];rfl) (InL.i ⟨y.A,EltG.i (Rt.i rfl) (by show(r.map (·.A))[((idx s r:Nat):Int).toNat]? = _;rw[Int.toNat_natCast,List.getElem?_map,g];rfl)⟩ (by omega) (by show((idx s r:Nat):Int).toNat<(r.map (·.A)).length;simpa using hi))
theorem Price_r {r:List KN}(h:OrdB r) (hl:r.length≤1000000) (s:ByteArray):zfc_r (bk r) s (priceS s r):=by
 refine zfc_of ?_
 unfold zfc_w priceS
 refine⟨_,place_i h hl s,?_⟩
 rcases lk_cases h s with⟨c,e⟩|⟨y,c,e,g,_⟩
 ·rw[e];exact Br.t (by rw[c];rfl) (Rt.i rfl)
 ·rw[e]
  have hi:idx s r<r.length:=by
   rcases Nat.lt_or_ge (idx s r) r.length with k|k
   ·exact k
   ·rw[List.getElem?_eq_none k] at g;cases g
  have g2:(bk r).prices[((idx s r:Nat):Int).toNat]? = some y.Price:=by show(r.map (·.Price))[((idx s r:Nat):Int).toNat]? = _;rw[Int.toNat_natCast,List.getElem?_map,g];rfl
  have h2:((idx s r:Nat):Int).toNat<(bk r).prices.length:=by show((idx s r:Nat):Int).toNat<(r.map (·.Price)).length;simpa using hi
  exact Br.f (by rw[c];rfl) (InL.i ⟨y.Price,EltG.i (Br.i (fun c=>Rt.i (if_pos c).symm) (fun c=>InL.i (EltG.i (Rt.i (if_neg c).symm) g2) (by omega) h2)) g2⟩ (by omega) h2)
end Go.Proofs.YtjlkmdmaimednaaGreat.Pure
namespace Go.Proofs.YtjlkmdmaimednaaGreat.Pure
open Go Go.Ab Go.Proofs.YtjlkmdmaimednaaGreat.R
theorem idx_A {s:ByteArray}:∀{r q:List KN},r.map (·.A)=q.map (·.A)→idx s r=idx s q∧kn s r=kn s q
 |[],[],_=>⟨rfl,rfl⟩
 |[],_::_,h=>by cases h
 |_::_,[],h=>by cases h
 |x::r,y::q,h=>by
  simp only[List.map_cons,List.cons.injEq] at h
  obtain⟨h1,h2⟩:=h
  obtain⟨e1,e2⟩:=idx_A (s:=s) h2
  unfold idx at e1 ⊢
  unfold kn at e2 ⊢
  rw[List.takeWhile_cons,List.takeWhile_cons,List.any_cons,List.any_cons,e2,h1]
  refine⟨?_,rfl⟩
  split
  ·rw[List.length_cons,List.length_cons,e1]
  ·rfl
theorem ord_A {r q:List KN}(h:OrdB r) (e:r.map (·.A)=q.map (·.A)):OrdB q:=by
 have h1:(r.map (·.A)).Pairwise (fun x y=>sLt x.ISIN y.ISIN):=List.pairwise_map.2 h
 rw[e] at h1
 exact(List.pairwise_map (f:=fun x:KN=>x.A) (R:=fun x y=>sLt x.ISIN y.ISIN)).1 h1
def setS (r:List KN)(p:zbq):List KN:=match r[idx p.ISIN r]? with
 |some y=>r.set (idx p.ISIN r) ⟨y.A,p.Price⟩
 |none=>r
theorem setS_A (r:List KN) (p:zbq):(setS r p).map (·.A)=r.map (·.A):=by
 unfold setS
 split
 ·rename_i y h
  rw[List.map_set]
  refine List.ext_getElem? fun i => ?_
  rw[List.getElem?_set]
  split
  ·rename_i e
   subst e
   rw[List.getElem?_map,h]
   split
   ·rfl
   ·rename_i k
    have:=(List.getElem?_eq_some_iff.1 h).1
    rw[List.length_map] at k
    exact absurd this k
  ·rfl
 ·rfl
theorem setsS_A:∀(p:List zbq)(r:List KN),(p.foldl setS r).map (·.A)=r.map (·.A)
 |[],_=>rfl
 |x::p,r=>by rw[List.foldl_cons,setsS_A p,setS_A]
def errP (r:List KN):List zbq→Nat→Option (Int×Int)
 |[],_=>none
 |p::l,i=>if kn p.ISIN r=false then some (i,21) else if p.Price<1 then some (i,31) else if p.Price>4294967296 then some (i,31) else errP r l (i+1)
theorem set_l0 {r:List KN}(h:OrdB r) (hl:r.length≤1000000){p:List zbq}(hp:p.length≤1000000){Q0:Int×Int→Prop}{Q1:Unit→Prop}:∀(n i:Nat),n+i=p.length→(∀v,errP r (p.drop i) i=some v→Q0 v)→(errP r (p.drop i) i=none→Q1 ())→zbj_L0 p (bk r) Q0 Q1 (i:Int):=by
 intro n
 induction n with
 |zero=>
  intro i hn q0 q1
  refine zbj_l0 ?_
  unfold zbj_w0
  rw[Qab]
  rw[List.drop_of_length_le (by omega)] at q1
  exact Br.neg (by omega) (Lf.i (q1 rfl))
 |succ n ih=>
  intro i hn q0 q1
  have hi:i<p.length:=by omega
  refine zbj_l0 ?_
  unfold zbj_w0
  rw[Qab]
  rw[List.drop_eq_getElem_cons hi,errP] at q0 q1
  have g:p[(i:Int).toNat]? = some p[i]:=by simp[hi]
  refine Br.pos (by omega) ⟨p[i],Got.i ⟨_,place_i h hl _,?_⟩ (by omega) g⟩
  cases c:kn p[i].ISIN r with
  |false=>exact Br.t rfl (Lf.i (q0 _ (by rw[if_pos c])))
  |true=>
   rw[c,if_neg (by decide)] at q0 q1
   refine Br.f rfl (Br.i (fun c1=>Lf.i (q0 _ (by rw[if_pos c1]))) (fun c1 => ?_))
   rw[if_neg c1] at q0 q1
   refine Br.i (fun c2=>Lf.i (q0 _ (by rw[if_pos c2]))) (fun c2 => ?_)
   rw[if_neg c2] at q0 q1
   exact Num.n (by omega) (ih (i+1) (by omega) q0 q1)
theorem kn_at {r q:List KN}(h:OrdB r) (e:q.map (·.A)=r.map (·.A)){s:ByteArray}(c:kn s r=true):∃y,q[idx s r]? = some y∧idx s r<q.length∧setS q=setS q:=by
 obtain⟨e1,e2⟩:=idx_A (s:=s) e
 obtain⟨y,h1,_⟩:=kn_idx (ord_A h e.symm) (by rw[e2];exact c)
 rw[e1] at h1
 exact⟨y,h1,(List.getElem?_eq_some_iff.1 h1).1,rfl⟩
theorem set_l1 {r:List KN}(h:OrdB r) (hl:r.length≤1000000){p:List zbq}(hp:p.length≤1000000){Q:List Int→Prop}:∀(n i:Nat)(q:List KN),n+i=p.length→q.map (·.A)=r.map (·.A)→errP r (p.drop i) i=none→Q (((p.drop i).foldl setS q).map (·.Price))→zbj_L1 p (bk r) Q (i:Int) (q.map (·.Price)):=by
 intro n
 induction n with
 |zero=>
  intro i q hn e ok hQ
  refine zbj_l1 ?_
  unfold zbj_w1
  rw[Qab]
  rw[List.drop_of_length_le (by omega)] at hQ
  exact Br.neg (by omega) (Lf.i hQ)
 |succ n ih=>
  intro i q hn e ok hQ
  have hi:i<p.length:=by omega
  refine zbj_l1 ?_
  unfold zbj_w1
  rw[Qab]
  rw[List.drop_eq_getElem_cons hi,errP] at ok
  rw[List.drop_eq_getElem_cons hi,List.foldl_cons] at hQ
  have g:p[(i:Int).toNat]? = some p[i]:=by simp[hi]
  cases c:kn p[i].ISIN r with
  |false=>rw[if_pos c] at ok;cases ok
  |true=>
   rw[c,if_neg (by decide)] at ok
   have ok2:errP r (p.drop (i+1)) (i+1)=none:=by
    split at ok
    ·cases ok
    ·split at ok
     ·cases ok
     ·exact ok
   obtain⟨y,h1,h2,_⟩:=kn_at h e c
   have g2:(q.map (·.Price))[((idx p[i].ISIN r:Nat):Int).toNat]? = some y.Price:=by rw[Int.toNat_natCast,List.getElem?_map,h1];rfl
   have e3:((q.map (·.Price)).set ((idx p[i].ISIN r:Nat):Int).toNat p[i].Price)=(setS q p[i]).map (·.Price):=by
    unfold setS
    rw[(idx_A e).1,h1,Int.toNat_natCast,List.map_set]
   refine Br.pos (by omega) ⟨p[i],Got.i ⟨_,place_i h hl _,InL.i ⟨y.Price,EltS.i (Num.n (by omega) ?_) g2⟩ (by omega) (by rw[Int.toNat_natCast,List.length_map];exact h2)⟩ (by omega) g⟩
   have:=ih (i+1) (setS q p[i]) (by omega) (by rw[setS_A,e]) ok2 hQ
   rw[←e3] at this
   exact this
theorem rset_l {r:List KN}(h:OrdB r) (hl:r.length≤1000000){p:List zbq}(hp:p.length≤1000000){Q0:Int×Int→Prop}{Q1:List KN→Prop}:∀(n i:Nat)(q:List KN),n+i=p.length→q.map (·.A)=r.map (·.A)→(∀v,errP r (p.drop i) i=some v→Q0 v)→(errP r (p.drop i) i=none→Q1 ((p.drop i).foldl setS q))→zcb_L0 r p Q0 Q1 (i:Int) q:=by
 intro n
 induction n with
 |zero=>
  intro i q hn e q0 q1
  refine zcb_l0 ?_
  unfold zcb_w0
  rw[Qab]
  rw[List.drop_of_length_le (by omega)] at q1
  exact Br.neg (by omega) (Lf.i (q1 rfl))
 |succ n ih=>
  intro i q hn e q0 q1
  have hi:i<p.length:=by omega
  refine zcb_l0 ?_
  unfold zcb_w0
  rw[Qab]
  rw[List.drop_eq_getElem_cons hi,errP] at q0 q1
  rw[List.foldl_cons] at q1
  have g:p[(i:Int).toNat]? = some p[i]:=by simp[hi]
  refine Br.pos (by omega) ⟨p[i],Got.i ⟨_,find_i h hl _,?_⟩ (by omega) g⟩
  cases c:kn p[i].ISIN r with
  |false=>
   rw[if_neg (by decide)]
   exact Br.pos (by omega) (Lf.i (q0 _ (by rw[if_pos c])))
  |true=>
   rw[c,if_neg (by decide)] at q0 q1
   rw[if_pos rfl]
   refine Br.neg (by omega) (Got.i (Br.i (fun c1=>Lf.i (q0 _ (by rw[if_pos c1]))) (fun c1 => ?_)) (by omega) g)
   rw[if_neg c1] at q0 q1
   refine Got.i (Br.i (fun c2=>Lf.i (q0 _ (by rw[if_pos c2]))) (fun c2 => ?_)) (by omega) g
   rw[if_neg c2] at q0 q1
   obtain⟨y,h1,h2,_⟩:=kn_at h e c
   have g2:q[((idx p[i].ISIN r:Nat):Int).toNat]? = some y:=by rw[Int.toNat_natCast];exact h1
   have e3:q.set ((idx p[i].ISIN r:Nat):Int).toNat ⟨y.A,p[i].Price⟩=setS q p[i]:=by
    unfold setS
    rw[(idx_A e).1,h1,Int.toNat_natCast]
   refine Got.i (InL.i ⟨y,EltS.i (Num.n (by omega) ?_) g2⟩ (by omega) (by rw[Int.toNat_natCast];exact h2)) (by omega) g
   rw[e3]
   exact ih (i+1) (setS q p[i]) (by omega) (by rw[setS_A,e]) q0 q1
theorem Set_both {r:List KN}(h:OrdB r) (hl:r.length≤1000){p:List zbq}(hp:p.length≤1000):∃q n e,zbj_r (bk r) p (n,e,bk q)∧zcb_r r p (q,n,e)∧q.map (·.A)=r.map (·.A):=by
 cases k:errP r p 0 with
 |some v=>
  refine⟨r,v.1,v.2,zbj_of ?_,zcb_of ?_,rfl⟩
  ·unfold zbj_w
   exact Br.f rfl (set_l0 h (by omega) (by omega) p.length 0 (by omega) (fun u hu=>Rt.i (by rw[List.drop_zero] at hu;have:some v=some u:=k.symm.trans hu;cases this;rfl)) (fun hu=>by rw[List.drop_zero] at hu;have:some v=none:=k.symm.trans hu;cases this))
  ·unfold zcb_w
   refine ApZ.i (app64 (by omega)) (rset_l h (by omega) (by omega) p.length 0 r (by omega) rfl (fun u hu=>Rt.i (by rw[List.drop_zero] at hu;have:some v=some u:=k.symm.trans hu;cases this;rfl)) (fun hu=>by rw[List.drop_zero] at hu;have:some v=none:=k.symm.trans hu;cases this))
 |none=>
  refine⟨p.foldl setS r,(p.length:Nat),0,zbj_of ?_,zcb_of ?_,setsS_A _ _⟩
  ·unfold zbj_w
   rw[Qab]
   refine Br.f rfl (set_l0 h (by omega) (by omega) p.length 0 (by omega) (fun u hu=>by rw[List.drop_zero] at hu;have:none=some u:=k.symm.trans hu;cases this) (fun _ => ?_))
   refine set_l1 h (by omega) (by omega) p.length 0 r (by omega) rfl (by rw[List.drop_zero];exact k) (Rt.i ?_)
   rw[List.drop_zero]
   unfold bk
   rw[setsS_A]
  ·unfold zcb_w
   rw[Qab]
   refine ApZ.i (app64 (by omega)) (rset_l h (by omega) (by omega) p.length 0 r (by omega) rfl (fun u hu=>by rw[List.drop_zero] at hu;have:none=some u:=k.symm.trans hu;cases this) (fun _=>Rt.i ?_))
   rw[List.drop_zero]
def leftS (m day:Int):Int:=if day<0 then -1 else if day>200000 then -1 else m-day
theorem Left_r {a:zaf}{day:Int}(h:0≤a.Maturity∧a.Maturity≤200000):zge_r a day (leftS a.Maturity day):=by
 refine zge_of ?_
 unfold zge_w leftS
 refine Br.i (fun c=>Rt.i (by rw[if_pos c])) (fun c=>Br.i (fun c2=>Rt.i (by rw[if_neg c,if_pos c2])) (fun c2=>Num.n (by omega) (Rt.i (by rw[if_neg c,if_neg c2]))))
theorem RLeft_r {a:zaf}{day:Int}(h:0≤a.Maturity∧a.Maturity≤200000):zeo_r a day (leftS a.Maturity day):=by
 refine zeo_of ?_
 unfold zeo_w leftS
 refine Br.i (fun c=>Rt.i (by rw[if_pos c])) (fun c=>Br.i (fun c2=>Rt.i (by rw[if_neg c,if_pos c2])) (fun c2=>Num.n (by omega) (Rt.i (by rw[if_neg c,if_neg c2]))))
def cutS (left rt:Int):List zbs→Int×Bool
 |[]=>(0,false)
 |c::l=>if left≤c.Days∧rt≤c.Rating then(c.Cut,true) else cutS left rt l
def ofS (b:zat)(a:zaf)(day:Int):Int×Bool:=if leftS a.Maturity day<0 then(0,false) else cutS (leftS a.Maturity day) a.Rating b.Cuts
theorem hof_l {left:Int}{b:zat}{a:zaf}(hb:b.Cuts.length≤1000000){P:Int×Bool→Prop}{Q0:Int→Prop}{Q1:Unit→Prop}(q0:∀v,P (v,true)→Q0 v) (q1:P (0,false)→Q1 ()):∀(n i:Nat),n+i=b.Cuts.length→P (cutS left a.Rating (b.Cuts.drop i))→zdi_L0 left b a Q0 Q1 (i:Int):=by
 intro n
 induction n with
 |zero=>
  intro i hn p
  refine zdi_l0 ?_
  unfold zdi_w0
  rw[Qab]
  rw[List.drop_of_length_le (by omega)] at p
  exact Br.neg (by omega) (Lf.i (q1 p))
 |succ n ih=>
  intro i hn p
  have hi:i<b.Cuts.length:=by omega
  refine zdi_l0 ?_
  unfold zdi_w0
  rw[Qab]
  rw[List.drop_eq_getElem_cons hi,cutS] at p
  have g:b.Cuts[(i:Int).toNat]? = some b.Cuts[i]:=by simp[hi]
  refine Br.pos (by omega) ⟨b.Cuts[i],Got.i (Br.i (fun c1=>Br.i (fun c2=>Lf.i (q0 _ ?_)) (fun c2=>Num.n (by omega) (ih (i+1) (by omega) ?_))) (fun c1=>Num.n (by omega) (ih (i+1) (by omega) ?_))) (by omega) g⟩
  ·rw[if_pos ⟨c1,c2⟩] at p;exact p
  ·rw[if_neg (fun k=>c2 k.2)] at p;exact p
  ·rw[if_neg (fun k=>c1 k.1)] at p;exact p
theorem rhof_l {left:Int}{b:zat}{a:zaf}(hb:b.Cuts.length≤1000000){P:Int×Bool→Prop}{Q0:Int→Prop}{Q1:Unit→Prop}(q0:∀v,P (v,true)→Q0 v) (q1:P (0,false)→Q1 ()):∀(n i:Nat),n+i=b.Cuts.length→P (if left<0 then(0,false) else cutS left a.Rating (b.Cuts.drop i))→zcl_L0 left b a Q0 Q1 (i:Int):=by
 intro n
 induction n with
 |zero=>
  intro i hn p
  refine zcl_l0 ?_
  unfold zcl_w0
  rw[Qab]
  rw[List.drop_of_length_le (by omega)] at p
  refine Br.neg (by omega) (Lf.i (q1 ?_))
  split at p<;>exact p
 |succ n ih=>
  intro i hn p
  have hi:i<b.Cuts.length:=by omega
  refine zcl_l0 ?_
  unfold zcl_w0
  rw[Qab]
  have g:b.Cuts[(i:Int).toNat]? = some b.Cuts[i]:=by simp[hi]
  refine Br.pos (by omega) (Br.i (fun c0 => ?_) (fun c0=>Lf.i (q1 (by rw[if_pos (by omega)] at p;exact p))))
  have ng:¬ left<0:=by omega
  rw[if_neg ng,List.drop_eq_getElem_cons hi,cutS] at p
  refine⟨b.Cuts[i],Got.i (Br.i (fun c1=>Got.i (Br.i (fun c2=>Got.i (Lf.i (q0 _ ?_)) (by omega) g) (fun c2=>Num.n (by omega) (ih (i+1) (by omega) ?_))) (by omega) g) (fun c1=>Num.n (by omega) (ih (i+1) (by omega) ?_))) (by omega) g⟩
  ·rw[if_pos ⟨by omega,by omega⟩] at p;exact p
  ·rw[if_neg (fun k=>c2 (by omega))] at p;rw[if_neg ng];exact p
  ·rw[if_neg (fun k=>c1 (by omega))] at p;rw[if_neg ng];exact p
theorem HOf_r {b:zat}{a:zaf}{day:Int}(hb:b.Cuts.length≤1000000) (h:0≤a.Maturity∧a.Maturity≤200000):zdi_r b a day (ofS b a day):=by
 refine zdi_of ?_
 unfold zdi_w ofS
 refine⟨_,Left_r h,Br.i (fun c=>Rt.i (by rw[if_pos c])) (fun c => ?_)⟩
 rw[if_neg c]
 exact hof_l hb (P:=fun v=>v=cutS (leftS a.Maturity day) a.Rating b.Cuts) (fun v p=>Rt.i p) (fun p=>Rt.i p) b.Cuts.length 0 (by omega) (by rw[List.drop_zero])
theorem RHOf_r {b:zat}{a:zaf}{day:Int}(hb:b.Cuts.length≤1000000) (h:0≤a.Maturity∧a.Maturity≤200000):zcl_r b a day (ofS b a day):=by
 refine zcl_of ?_
 unfold zcl_w ofS
 exact⟨_,RLeft_r h,rhof_l hb (P:=fun v=>v=if leftS a.Maturity day<0 then(0,false) else cutS (leftS a.Maturity day) a.Rating b.Cuts) (fun v p=>Rt.i p) (fun p=>Rt.i p) b.Cuts.length 0 (by omega) (by rw[List.drop_zero])⟩
def zI:zaa:=⟨⟨ByteArray.empty,0⟩,⟨ByteArray.empty,0,0,0,ByteArray.empty⟩,0,0⟩
def itemS (r:List KN)(b:zat)(x:zab)(day:Int):zaa×Int:=match lk x.ISIN r with
 |none=>(zI,21)
 |some y=>if y.Price=0 then(zI,31) else if (ofS b y.A day).2=false then(zI,23) else if x.Qty<0 then(zI,1) else if x.Qty>1125899906842624 then(zI,1) else(⟨x,y.A,y.Price,(ofS b y.A day).1⟩,0)
def Fine (r:List KN):Prop:=OrdB r∧r.length≤1000∧∀y∈r,assetS y.A=0
theorem lk_mem {r:List KN}{s:ByteArray}{y:KN}(h:lk s r=some y):y∈r:=by
 unfold lk at h
 split at h
 ·exact List.mem_of_getElem? h
 ·cases h
theorem Find_r {r:List KN}(h:Fine r){b:zat}(hb:b.Cuts.length≤1000000) (x:zab) (day:Int):zfg_r (bk r) b x day (itemS r b x day):=by
 obtain⟨h1,h2,h3⟩:=h
 refine zfg_of ?_
 unfold zfg_w
 refine⟨_,Get_r h1 (by omega) _,?_⟩
 unfold itemS getS
 cases e:lk x.ISIN r with
 |none=>exact Br.t rfl (Rt.i rfl)
 |some y=>
  have ok:=Qgo (h3 y (lk_mem e))
  refine Br.f rfl ⟨_,Price_r h1 (by omega) _,?_⟩
  unfold priceS
  rw[e]
  show Br (!(if y.Price=0 then((0:Int),false) else(y.Price,true)).2) _ _
  by_cases c:y.Price=0
  ·simp only[if_pos c]
   exact Br.t rfl (Rt.i rfl)
  ·simp only[if_neg c]
   refine Br.f rfl ⟨_,HOf_r hb ⟨by omega,by omega⟩,?_⟩
   show Br (!(ofS b y.A day).2) _ _
   cases c2:(ofS b y.A day).2 with
   |false=>exact Br.t rfl (Rt.i (by simp;rfl))
   |true=>
    refine Br.f rfl (Br.i (fun c3=>Rt.i (by simp[c3];rfl)) (fun c3=>Br.i (fun c4=>Rt.i (by simp[c3,c4];rfl)) (fun c4=>Rt.i (by simp[c3,c4]))))
theorem RFind_r {r:List KN}(h:Fine r){b:zat}(hb:b.Cuts.length≤1000000) (x:zab) (day:Int):zea_r r b x day (toR (itemS r b x day).1,(itemS r b x day).2):=by
 obtain⟨h1,h2,h3⟩:=h
 refine zea_of ?_
 unfold zea_w
 refine⟨_,find_i h1 (by omega) _,?_⟩
 unfold itemS
 rcases lk_cases h1 x.ISIN with⟨k,e⟩|⟨y,k,e,g,_⟩
 ·rw[e,k,if_neg (by decide)]
  exact Br.pos (by omega) (Rt.i rfl)
 ·have ok:=Qgo (h3 y (lk_mem e))
  rw[e,k,if_pos rfl]
  have g2:r[((idx x.ISIN r:Nat):Int).toNat]? = some y:=by rw[Int.toNat_natCast];exact g
  refine Br.neg (by omega) ⟨y,Got.i (Br.i (fun c=>Rt.i (by simp only[if_pos c];rfl)) (fun c => ?_)) (by omega) g2⟩
  simp only[if_neg c]
  refine Got.i ⟨_,RHOf_r hb ⟨by omega,by omega⟩,?_⟩ (by omega) g2
  show Br (!(ofS b y.A day).2) _ _
  cases c2:(ofS b y.A day).2 with
  |false=>exact Br.t rfl (Rt.i (by simp;rfl))
  |true=>
   refine Br.f rfl (Br.i (fun c3=>Rt.i (by simp[c3];rfl)) (fun c3=>Br.i (fun c4=>Rt.i (by simp[c3,c4];rfl)) (fun c4=>Got.i (Got.i (Rt.i (by simp[c3,c4];rfl)) (by omega) g2) (by omega) g2)))
end Go.Proofs.YtjlkmdmaimednaaGreat.Pure
namespace Go.Proofs.YtjlkmdmaimednaaGreat.Pure
open Go Go.Ab Go.Stable Go.Proofs.YtjlkmdmaimednaaGreat.R
theorem Less_int_r (a b:Int):zfv_r a b (decide (a<b)):=by
 refine zfv_of ?_
 unfold zfv_w
 exact⟨_,Qeb a,Br.f rfl (Rt.i rfl)⟩
theorem bsI_l {A B:List Int}{s:Int}(hA:∀y∈A,y<s) (hB:∀y∈B,¬ y<s) (hl:(A++B).length≤1000000){Q:Int→Prop}(q:Q (A.length:Nat)):
  ∀(n i j:Nat),j-i≤n→i≤A.length→A.length≤j→j≤(A++B).length→zbc_L0 (A++B) s Q i j:=by
 intro n
 induction n with
 |zero=>
  intro i j hn hi hj hjl
  have e:i=A.length:=by omega
  refine zbc_l0 ?_
  unfold zbc_w0
  exact Br.neg (by omega) (Lf.i (by rw[e];exact q))
 |succ n ih=>
  intro i j hn hi hj hjl
  refine zbc_l0 ?_
  unfold zbc_w0
  by_cases c:i<j
  ·rw[half (i:=i) (j:=j) (by omega),show(((i+j)/2:Nat):Int)+1=(((i+j)/2+1:Nat):Int) by omega]
   have hk:(i+j)/2<(A++B).length:=by omega
   refine Br.pos (by omega) (Num.n (by omega) ⟨(A++B)[(i+j)/2],Got.i ⟨_,Less_int_r _ _,Br.i (fun c1=>Num.n (by omega) ?_) (fun c1 => ?_)⟩ (by omega) (show(A++B)[(i+j)/2]? = _ from List.getElem?_eq_getElem hk)⟩)
   ·have:(i+j)/2<A.length:=Nat.lt_of_not_le fun h=>by
     refine hB _ ?_ c1
     rw[List.getElem_append_right h];exact List.getElem_mem _
    exact ih _ _ (by omega) (by omega) hj hjl
   ·have:A.length≤(i+j)/2:=Nat.le_of_not_lt fun h=>by
     refine c1 (hA _ ?_)
     rw[List.getElem_append_left h];exact List.getElem_mem _
    exact ih _ _ (by omega) hi this (by omega)
  ·have e:i=A.length:=by omega
   exact Br.neg (by omega) (Lf.i (by rw[e];exact q))
theorem splitI (s:Int):∀(l:List Int),l.Pairwise (· < ·)→∃A B,l=A++B∧(∀y∈A,y<s)∧(∀y∈B,¬ y<s)∧∀y∈B.drop 1,s<y
 |[],_=>⟨[],[],rfl,by simp,by simp,by simp⟩
 |y::l,h=>by
  obtain⟨h1,h2⟩:=List.pairwise_cons.1 h
  by_cases c:y<s
  ·obtain⟨A,B,e,hA,hB,hC⟩:=splitI s l h2
   refine⟨y::A,B,by rw[e];rfl,fun z hz => ?_,hB,hC⟩
   rcases List.mem_cons.1 hz with rfl|hz
   ·exact c
   ·exact hA z hz
  ·refine⟨[],y::l,rfl,by simp,fun z hz => ?_,fun z hz => ?_⟩
   ·rcases List.mem_cons.1 hz with rfl|hz
    ·exact c
    ·have:=h1 z hz;omega
   ·have:=h1 z (by simpa using hz);omega
theorem bsI_r {l:List Int}(h:l.Pairwise (· < ·)) (hl:l.length≤1000000) (s:Int):∃k,zbc_r l s (k,decide (s∈l)):=by
 obtain⟨A,B,rfl,hA,hB,hC⟩:=splitI s l h
 refine⟨(A.length:Nat),zbc_of ?_⟩
 unfold zbc_w
 rw[Qab]
 refine bsI_l hA hB hl ?_ (A++B).length 0 (A++B).length (by omega) (by omega) (by simp) (Nat.le_refl _)
 have nA:s∉A:=fun k=>by have:=hA s k;omega
 cases B with
 |nil=>
  refine Br.neg (by simp) (Rt.i ?_)
  rw[decide_eq_false (by simpa using nA)]
 |cons y B=>
  have g:(A++y::B)[((A.length:Nat):Int).toNat]? = some y:=by rw[Int.toNat_natCast,List.getElem?_append_right (Nat.le_refl _)];simp
  refine Br.pos (by simp;omega) ⟨y,Got.i (Br.i (fun c=>Rt.i ?_) (fun c=>Got.i ⟨_,zff_of (v:=false) (by unfold zff_w;exact Rt.i (by simp)),Br.f rfl (Rt.i ?_)⟩ (by omega) g)) (by omega) g⟩
  ·rw[decide_eq_true (by simp[c])]
  ·rw[decide_eq_false]
   intro k
   rcases List.mem_append.1 k with k|k
   ·exact nA k
   ·rcases List.mem_cons.1 k with k|k
    ·exact c k.symm
    ·have:=hC s (by simpa using k);omega
def whyS (b:zat)(a:zaf)(day:Int):Int:=
 if a.Currency≠b.Currency then 1 else if a.Rating>b.Rating then 2 else if leftS a.Maturity day<1 then 3 else if leftS a.Maturity day<b.Least then 3 else if leftS a.Maturity day>b.Most then 4 else if a.Issuer∈b.Barred then 5 else 0
structure Rules (b:zat):Prop where
 cuts:b.Cuts.length≤64
 bl:b.Barred.length≤64
 bar:b.Barred.Pairwise (· < ·)
theorem Why_r {b:zat}(hb:Rules b){a:zaf}{day:Int}(h:0≤a.Maturity∧a.Maturity≤200000):zfw_r b a day (whyS b a day):=by
 refine zfw_of ?_
 unfold zfw_w whyS
 obtain⟨k,hk⟩:=bsI_r hb.bar (by have:=hb.bl;omega) a.Issuer
 refine⟨_,Left_r h,_,hk,Br.i (fun c=>Rt.i (by rw[if_pos c])) (fun c => ?_)⟩
 rw[if_neg c]
 refine Br.i (fun c=>Rt.i (by rw[if_pos c])) (fun c => ?_)
 rw[if_neg c]
 refine Br.i (fun c=>Rt.i (by rw[if_pos c])) (fun c => ?_)
 rw[if_neg c]
 refine Br.i (fun c=>Rt.i (by rw[if_pos c])) (fun c => ?_)
 rw[if_neg c]
 refine Br.i (fun c=>Rt.i (by rw[if_pos c])) (fun c => ?_)
 rw[if_neg c]
 exact Br.i (fun c=>Rt.i (by rw[if_pos c])) (fun c=>Rt.i (by rw[if_neg c]))
theorem has_l {l:List Int}{s:Int}(hl:l.length≤1000000){Q0 Q1:Unit→Prop}:∀(n i:Nat),n+i=l.length→(s∈l.drop i→Q0 ())→(s∉l.drop i→Q1 ())→zch_L0 l s Q0 Q1 (i:Int):=by
 intro n
 induction n with
 |zero=>
  intro i h q0 q1
  refine zch_l0 ?_
  unfold zch_w0
  rw[Qab]
  rw[List.drop_of_length_le (by omega)] at q1
  exact Br.neg (by omega) (Lf.i (q1 (by simp)))
 |succ n ih=>
  intro i h q0 q1
  have hi:i<l.length:=by omega
  refine zch_l0 ?_
  unfold zch_w0
  rw[Qab]
  rw[List.drop_eq_getElem_cons hi] at q0 q1
  have g:l[(i:Int).toNat]? = some l[i]:=by simp[hi]
  refine Br.pos (by omega) ⟨l[i],Got.i (Br.i (fun c=>Lf.i (q0 (by rw[c];exact List.mem_cons_self))) (fun c=>Num.n (by omega) (ih (i+1) (by omega) (fun k=>q0 (List.mem_cons_of_mem _ k)) (fun k=>q1 (fun k2 => ?_))))) (by omega) g⟩
  rcases List.mem_cons.1 k2 with k2|k2
  ·exact c k2.symm
  ·exact k k2
theorem has_r {l:List Int}(hl:l.length≤1000000) (s:Int):zch_r l s (decide (s∈l)):=by
 refine zch_of ?_
 unfold zch_w
 refine has_l hl l.length 0 (by omega) (fun k=>Rt.i ?_) (fun k=>Rt.i ?_)
 ·rw[List.drop_zero] at k;exact(decide_eq_true k).symm
 ·rw[List.drop_zero] at k;exact(decide_eq_false k).symm
theorem RWhy_r {b:zat}(hb:Rules b){a:zaf}{day:Int}(h:0≤a.Maturity∧a.Maturity≤200000):zee_r b a day (whyS b a day):=by
 refine zee_of ?_
 unfold zee_w whyS
 refine Br.i (fun c=>Rt.i (by rw[if_pos c])) (fun c => ?_)
 rw[if_neg c]
 refine Br.i (fun c=>Rt.i (by rw[if_pos c])) (fun c => ?_)
 rw[if_neg c]
 refine⟨_,RLeft_r h,?_⟩
 refine Br.i (fun c=>Rt.i (by rw[if_pos c])) (fun c => ?_)
 rw[if_neg c]
 refine Br.i (fun c=>Rt.i (by rw[if_pos c])) (fun c => ?_)
 rw[if_neg c]
 refine Br.i (fun c=>Rt.i (by rw[if_pos c])) (fun c => ?_)
 rw[if_neg c]
 refine⟨_,has_r (by have:=hb.bl;omega) a.Issuer,?_⟩
 exact Br.i (fun c=>Rt.i (by rw[if_pos c])) (fun c=>Rt.i (by rw[if_neg c]))
theorem Fits_r {b:zat}(hb:Rules b){a:zaf}{day:Int}(h:0≤a.Maturity∧a.Maturity≤200000):zgi_r b a day (whyS b a day==0):=by
 refine zgi_of ?_
 unfold zgi_w
 exact⟨_,Why_r hb h,Rt.i rfl⟩
section
variable (r:List KN) (b:zat) (day:Int)
def takeS (x:zab):Bool:=decide ((itemS r b x day).2=0)&&(whyS b (itemS r b x day).1.Asset day==0)
def inL (l:List zab):List zaa:=(l.filter (takeS r b day)).map (fun x=>(itemS r b x day).1)
def outL (l:List zab):List zab:=l.filter (fun x => !takeS r b day x)
end
theorem app24b {n:Nat}(h:n≤3000000):App 24 n:=⟨by unfold maxLen;omega,by omega⟩
section
variable {r:List KN} {b:zat} {day:Int}
theorem item_ok (h:Fine r){x:zab}(e:(itemS r b x day).2=0):0≤(itemS r b x day).1.Asset.Maturity∧(itemS r b x day).1.Asset.Maturity≤200000:=by
 unfold itemS at e ⊢
 cases k:lk x.ISIN r with
 |none=>rw[k] at e;cases e
 |some y=>
  rw[k] at e
  have ok:=Qgo (h.2.2 y (lk_mem k))
  show 0≤(if y.Price=0 then(zI,(31:Int)) else _).1.Asset.Maturity∧(if y.Price=0 then(zI,(31:Int)) else _).1.Asset.Maturity≤200000
  split
  ·decide
  ·split
   ·decide
   ·split
    ·decide
    ·split
     ·decide
     ·exact⟨ok.2.2.2.2.1,ok.2.2.2.2.2⟩
theorem elig_l (h:Fine r) (hb:Rules b){l:List zab}(hl:l.length≤1000){Q:(List zab)×(List zaa)→Prop}:∀(n i:Nat)(o:List zab)(a:List zaa),n+i=l.length→o.length≤i→a.length≤i→Q (o++outL r b day (l.drop i),a++inL r b day (l.drop i))→zcx_L0 day l b (bk r) Q (i:Int) o a:=by
 intro n
 induction n with
 |zero=>
  intro i o a hn ho ha q
  refine zcx_l0 ?_
  unfold zcx_w0
  rw[Qab]
  rw[List.drop_of_length_le (by omega)] at q
  exact Br.neg (by omega) (Lf.i (by simpa[outL,inL] using q))
 |succ n ih=>
  intro i o a hn ho ha q
  have hi:i<l.length:=by omega
  refine zcx_l0 ?_
  unfold zcx_w0
  rw[Qab]
  rw[List.drop_eq_getElem_cons hi] at q
  have g:l[(i:Int).toNat]? = some l[i]:=by simp[hi]
  have no:takeS r b day l[i]=false→Q (o++[l[i]]++outL r b day (l.drop (i+1)),a++inL r b day (l.drop (i+1))):=fun k=>by
   unfold outL inL at q ⊢
   rw[List.filter_cons,k,List.filter_cons,k] at q
   simpa using q
  have yes:takeS r b day l[i]=true→Q (o++outL r b day (l.drop (i+1)),a++[(itemS r b l[i] day).1]++inL r b day (l.drop (i+1))):=fun k=>by
   unfold outL inL at q ⊢
   rw[List.filter_cons,k,List.filter_cons,k] at q
   simpa using q
  refine Br.pos (by omega) ⟨l[i],Got.i ⟨_,Find_r h (by have:=hb.cuts;omega) _ _,?_⟩ (by omega) g⟩
  refine Br.i (fun c=>App2.i (app24b (by simp;omega)) (Num.n (by omega) (ih (i+1) _ _ (by omega) (by simp;omega) (by omega) (no ?_)))) (fun c => ?_)
  ·unfold takeS;rw[decide_eq_false c];rfl
  ·have c:=Decidable.not_not.1 c
   refine⟨_,Fits_r hb (item_ok h c),?_⟩
   refine Br.i (fun c2=>App2.i (app24b (by simp;omega)) (Num.n (by omega) (ih (i+1) _ _ (by omega) (by simp;omega) (by omega) (no ?_)))) (fun c2=>App2.i (app96 (by simp;omega)) (Num.n (by omega) (ih (i+1) _ _ (by omega) (by omega) (by simp;omega) (yes ?_))))
   ·unfold takeS;rw[decide_eq_true c,Bool.true_and];exact beq_eq_false_iff_ne.2 c2
   ·unfold takeS;rw[decide_eq_true c,Bool.true_and];exact beq_iff_eq.2 (Decidable.not_not.1 c2)
theorem in_out (l:List zab):(inL r b day l).length+(outL r b day l).length=l.length:=by
 unfold inL outL
 rw[List.length_map]
 induction l with
 |nil=>rfl
 |cons x l ih=>
  rw[List.filter_cons,List.filter_cons,List.length_cons]
  cases takeS r b day x<;>simp<;>omega
theorem Eligible_r (h:Fine r) (hb:Rules b){l:List zab}(hl:l.length≤1000):zcx_r (bk r) b l day (isort leE (inL r b day l),outL r b day l):=by
 refine zcx_of ?_
 unfold zcx_w
 have:=in_out (r:=r) (b:=b) (day:=day) l
 refine elig_l h hb hl l.length 0 [] [] (by omega) (by simp) (by simp) ?_
 rw[List.drop_zero,List.nil_append,List.nil_append]
 exact⟨_,Rank_r (by show(inL r b day l).length≤_;omega),Rt.i rfl⟩
end
theorem lots_l {a:List zab}(hl:a.length≤1000000){Q0 Q1:Unit→Prop}(q:Q1 ()):∀(n i:Nat),n+i=a.length→zca_L0 a a Q0 Q1 (i:Int):=by
 intro n
 induction n with
 |zero=>
  intro i h
  refine zca_l0 ?_
  unfold zca_w0
  rw[Qab]
  exact Br.neg (by omega) (Lf.i q)
 |succ n ih=>
  intro i h
  have hi:i<a.length:=by omega
  refine zca_l0 ?_
  unfold zca_w0
  rw[Qab]
  have g:a[(i:Int).toNat]? = some a[i]:=by simp[hi]
  have e:∀s:ByteArray,strEq s s=true:=fun s=>Qc2 rfl
  refine Br.pos (by omega) ⟨a[i],Got.i ⟨a[i],Got.i (Br.f (by simp[e]) (Num.n (by omega) (ih (i+1) (by omega)))) (by omega) g⟩ (by omega) g⟩
theorem Lots_r {a:List zab}(hl:a.length≤1000000):zca_r a a true:=by
 refine zca_of ?_
 unfold zca_w
 rw[Qab]
 exact Br.f (by simp) (lots_l hl (Rt.i rfl) a.length 0 (by omega))
end Go.Proofs.YtjlkmdmaimednaaGreat.Pure
namespace Go.Proofs.YtjlkmdmaimednaaGreat.Pure
open Go Go.Ab Go.Stable Go.Proofs.YtjlkmdmaimednaaGreat.R
def inS (n l m:Int):Bool:=decide (l≤n∧n≤m)
theorem in_r (n l m:Int):Qf6 n l m (inS n l m):=by
 refine zdr_of ?_
 unfold zdr_w inS
 refine Br.i (fun c=>Rt.i (decide_eq_decide.2 ⟨fun k=>⟨by omega,k⟩,fun k=>k.2⟩)) (fun c=>Rt.i (decide_eq_false (fun k=>c (by omega))).symm)
theorem amount_r (n:Int):zek_r n (inS n 1 1125899906842624):=by
 refine zek_of ?_
 unfold zek_w inS
 refine Br.i (fun c=>Rt.i (decide_eq_decide.2 ⟨fun k=>⟨by omega,k⟩,fun k=>k.2⟩)) (fun c=>Rt.i (decide_eq_false (fun k=>c (by omega))).symm)
def cutsS:List zbs→Bool
 |[]=>true
 |c::l=>if inS c.Days 0 200000=false then false else if inS c.Rating 0 20=false then false else if inS c.Cut 0 999999=false then false else cutsS l
def barS:Option Int→List Int→Bool
 |_,[]=>true
 |p,x::l=>if inS x 0 9999=false then false else match p with
  |none=>barS (some x) l
  |some y=>if x≤y then false else barS (some x) l
theorem barS_cons (p:Option Int) (x:Int) (l:List Int):barS p (x::l)=if inS x 0 9999=false then false else match p with
  |none=>barS (some x) l
  |some y=>if x≤y then false else barS (some x) l:=by
 cases p<;>rfl
def basketS (b:zat):Int:=if inS b.ID 1 64=false then 1 else if inS b.Version 1 1125899906842624=false then 1 else if inS b.Rating 0 20=false then 1 else if inS b.Issuer 0 1000000=false then 1 else if inS b.Asset 0 1000000=false then 1 else if inS (b.Cuts.length:Nat) 1 64=false then 1 else if ((b.Barred.length:Nat):Int)>64 then 1 else if b.Least<0 then 10 else if inS b.Most b.Least 200000=false then 10 else if curS b.Currency=false then 11 else if cutsS b.Cuts=false then 1 else if barS none b.Barred=false then 1 else 0
theorem cuts_l {b:zat}(hl:b.Cuts.length≤1000000){Q0 Q1:Unit→Prop}:∀(n i:Nat),n+i=b.Cuts.length→(cutsS (b.Cuts.drop i)=false→Q0 ())→(cutsS (b.Cuts.drop i)=true→Q1 ())→zar_L0 b Q0 Q1 (i:Int):=by
 intro n
 induction n with
 |zero=>
  intro i h q0 q1
  refine zar_l0 ?_
  unfold zar_w0
  rw[Qab]
  rw[List.drop_of_length_le (by omega)] at q1
  exact Br.neg (by omega) (Lf.i (q1 rfl))
 |succ n ih=>
  intro i h q0 q1
  have hi:i<b.Cuts.length:=by omega
  refine zar_l0 ?_
  unfold zar_w0
  rw[Qab]
  rw[List.drop_eq_getElem_cons hi,cutsS] at q0 q1
  have g:b.Cuts[(i:Int).toNat]? = some b.Cuts[i]:=by simp[hi]
  refine Br.pos (by omega) ⟨b.Cuts[i],Got.i ⟨_,in_r _ _ _,Br.b (fun c=>Lf.i (q0 ?_)) (fun c=>Got.i ⟨_,in_r _ _ _,Br.b (fun c2=>Lf.i (q0 ?_)) (fun c2=>Got.i ⟨_,in_r _ _ _,Br.b (fun c3=>Lf.i (q0 ?_)) (fun c3=>Num.n (by omega) (ih (i+1) (by omega) (fun k=>q0 ?_) (fun k=>q1 ?_)))⟩ (by omega) g)⟩ (by omega) g)⟩ (by omega) g⟩
  ·rw[if_pos (by simpa using c)]
  ·rw[if_neg (by simpa using c),if_pos (by simpa using c2)]
  ·rw[if_neg (by simpa using c),if_neg (by simpa using c2),if_pos (by simpa using c3)]
  ·rw[if_neg (by simpa using c),if_neg (by simpa using c2),if_neg (by simpa using c3)];exact k
  ·rw[if_neg (by simpa using c),if_neg (by simpa using c2),if_neg (by simpa using c3)];exact k
theorem bar_l {b:zat}(hl:b.Barred.length≤1000000){Q0 Q1:Unit→Prop}:∀(n i:Nat)(p:Option Int),n+i=b.Barred.length→(i=0∧p=none∨0<i∧∃y,p=some y∧b.Barred[i-1]? = some y)→(barS p (b.Barred.drop i)=false→Q0 ())→(barS p (b.Barred.drop i)=true→Q1 ())→zar_L1 b Q0 Q1 (i:Int):=by
 intro n
 induction n with
 |zero=>
  intro i p h hp q0 q1
  refine zar_l1 ?_
  unfold zar_w1
  rw[Qab]
  rw[List.drop_of_length_le (by omega)] at q1
  exact Br.neg (by omega) (Lf.i (q1 (by unfold barS;rfl)))
 |succ n ih=>
  intro i p h hp q0 q1
  have hi:i<b.Barred.length:=by omega
  refine zar_l1 ?_
  unfold zar_w1
  rw[Qab]
  rw[List.drop_eq_getElem_cons hi,barS_cons] at q0 q1
  have g:b.Barred[(i:Int).toNat]? = some b.Barred[i]:=by simp[hi]
  have next:(barS (some b.Barred[i]) (b.Barred.drop (i+1))=false→Q0 ())→(barS (some b.Barred[i]) (b.Barred.drop (i+1))=true→Q1 ())→zar_L1 b Q0 Q1 ((i+1:Nat):Int):=fun k0 k1=>ih (i+1) (some b.Barred[i]) (by omega) (.inr ⟨by omega,_,rfl,by rw[Nat.add_sub_cancel];exact List.getElem?_eq_getElem hi⟩) k0 k1
  refine Br.pos (by omega) ⟨b.Barred[i],Got.i ⟨_,in_r _ _ _,Br.b (fun c=>Lf.i (q0 ?_)) (fun c => ?_)⟩ (by omega) g⟩
  ·rw[if_pos (by simpa using c)]
  ·rw[if_neg (by simpa using c)] at q0 q1
   rcases hp with⟨rfl,rfl⟩|⟨h0,y,rfl,hy⟩
   ·exact Br.neg (by omega) (Num.n (by omega) (next q0 q1))
   ·have g2:b.Barred[((i:Int)-1).toNat]? = some y:=by rw[show((i:Int)-1).toNat=i-1 by omega];exact hy
    refine Br.pos (by omega) (Got.i (Num.n (by omega) ⟨y,Got.i (Br.i (fun c2=>Lf.i (q0 ?_)) (fun c2=>Num.n (by omega) (next (fun k=>q0 ?_) (fun k=>q1 ?_)))) (by omega) g2⟩) (by omega) g)
    ·show(if b.Barred[i]≤y then false else _)=false
     rw[if_pos c2]
    ·show(if b.Barred[i]≤y then false else _)=false
     rw[if_neg c2];exact k
    ·show(if b.Barred[i]≤y then false else _)=true
     rw[if_neg c2];exact k
theorem Basket_r {b:zat}(h1:b.Cuts.length≤100000000000000000):zar_r b (basketS b):=by
 refine zar_of ?_
 unfold zar_w basketS
 rw[Qab,Qab]
 refine⟨_,in_r _ _ _,Br.b (fun c=>Rt.i (by rw[if_pos (by simpa using c)])) (fun c => ?_)⟩
 rw[if_neg (by simpa using c)]
 refine⟨_,amount_r _,Br.b (fun c=>Rt.i (by rw[if_pos (by simpa using c)])) (fun c => ?_)⟩
 rw[if_neg (by simpa using c)]
 refine⟨_,in_r _ _ _,Br.b (fun c=>Rt.i (by rw[if_pos (by simpa using c)])) (fun c => ?_)⟩
 rw[if_neg (by simpa using c)]
 refine⟨_,in_r _ _ _,Br.b (fun c=>Rt.i (by rw[if_pos (by simpa using c)])) (fun c => ?_)⟩
 rw[if_neg (by simpa using c)]
 refine⟨_,in_r _ _ _,Br.b (fun c=>Rt.i (by rw[if_pos (by simpa using c)])) (fun c => ?_)⟩
 rw[if_neg (by simpa using c)]
 refine⟨_,in_r _ _ _,Br.b (fun c=>Rt.i (by rw[if_pos (by simpa using c)])) (fun c => ?_)⟩
 rw[if_neg (by simpa using c)]
 have hc:inS (b.Cuts.length:Nat) 1 64=true:=by simpa using c
 have hc2:b.Cuts.length≤64:=by unfold inS at hc;have:=of_decide_eq_true hc;omega
 refine Br.i (fun c=>Rt.i (by rw[if_pos c])) (fun cb => ?_)
 rw[if_neg cb]
 refine Br.i (fun c=>Rt.i (by rw[if_pos c])) (fun c => ?_)
 rw[if_neg c]
 refine⟨_,in_r _ _ _,Br.b (fun c=>Rt.i (by rw[if_pos (by simpa using c)])) (fun c => ?_)⟩
 rw[if_neg (by simpa using c)]
 refine⟨_,RCurrency_r _,Br.b (fun c=>Rt.i (by rw[if_pos (by simpa using c)])) (fun c => ?_)⟩
 rw[if_neg (by simpa using c)]
 refine cuts_l (by omega) b.Cuts.length 0 (by omega) (fun k=>Rt.i (by rw[List.drop_zero] at k;rw[if_pos k])) (fun k => ?_)
 rw[List.drop_zero] at k
 rw[k,if_neg (by decide)]
 refine bar_l (by omega) b.Barred.length 0 none (by omega) (.inl ⟨rfl,rfl⟩) (fun k=>Rt.i (by rw[List.drop_zero] at k;rw[if_pos k])) (fun k=>Rt.i ?_)
 rw[List.drop_zero] at k
 rw[k,if_neg (by decide)]
theorem bar_pw:∀(l:List Int)(p:Option Int),barS p l=true→l.Pairwise (· < ·)∧∀y,p=some y→∀x∈l,y<x
 |[],_,_=>⟨List.Pairwise.nil,fun _ _ x hx=>by cases hx⟩
 |x::l,p,h=>by
  rw[barS_cons] at h
  split at h
  ·cases h
  ·have key:barS (some x) l=true∧∀y,p=some y→y<x:=by
    cases p with
    |none=>exact⟨h,fun y hy=>by cases hy⟩
    |some y=>
     have h:(if x≤y then false else barS (some x) l)=true:=h
     split at h
     ·cases h
     ·exact⟨h,fun z hz=>by cases hz;omega⟩
   obtain⟨k1,k2⟩:=bar_pw l (some x) key.1
   refine⟨List.pairwise_cons.2 ⟨fun z hz=>k2 x rfl z hz,k1⟩,fun y hy z hz => ?_⟩
   have:=key.2 y hy
   rcases List.mem_cons.1 hz with rfl|hz
   ·exact this
   ·have:=k2 x rfl z hz;omega
theorem if1 {c:Prop} [Decidable c] {a x:Int}(ha:a≠0) (h:(if c then a else x)=0):¬ c∧x=0:=by
 by_cases k:c
 ·rw[if_pos k] at h;exact absurd h ha
 ·rw[if_neg k] at h;exact⟨k,h⟩
theorem basket_ok {b:zat}(h:basketS b=0):Rules b:=by
 unfold basketS at h
 obtain⟨_,h⟩:=if1 (by decide) h
 obtain⟨_,h⟩:=if1 (by decide) h
 obtain⟨_,h⟩:=if1 (by decide) h
 obtain⟨_,h⟩:=if1 (by decide) h
 obtain⟨_,h⟩:=if1 (by decide) h
 obtain⟨hc,h⟩:=if1 (by decide) h
 obtain⟨hb,h⟩:=if1 (by decide) h
 obtain⟨_,h⟩:=if1 (by decide) h
 obtain⟨_,h⟩:=if1 (by decide) h
 obtain⟨_,h⟩:=if1 (by decide) h
 obtain⟨_,h⟩:=if1 (by decide) h
 obtain⟨hbar,_⟩:=if1 (by decide) h
 have hc:inS (b.Cuts.length:Nat) 1 64=true:=by simpa using hc
 refine⟨?_,by omega,(bar_pw _ none (by simpa using hbar)).1⟩
 unfold inS at hc;have:=of_decide_eq_true hc;omega
end Go.Proofs.YtjlkmdmaimednaaGreat.Pure
