/- Texts put together. -/
import Derived.Test.YtjlkmdmaimednaaGreatAbStr
import Derived.Test.YtjlkmdmaimednaaGreatAbSt
import Derived.Test.YtjlkmdmaimednaaGreatRA1
import Derived.Test.YtjlkmdmaimednaaGreatAbCl
import Derived.Shelf.SlGeneric
import Derived.Shelf.SlicesE.Clone
import Derived.Ground.SlgnProg
set_option linter.unusedVariables false
set_option linter.unusedSimpArgs false
namespace Go.Proofs.YtjlkmdmaimednaaGreat.Pure
open Go Go.Ab Go.Stable Go.Proofs.YtjlkmdmaimednaaGreat.R
abbrev E:=zaa
instance:Inhabited E:=⟨⟨⟨ByteArray.empty,0⟩,⟨ByteArray.empty,0,0,0,ByteArray.empty⟩,0,0⟩⟩
def leP (x y:E):Prop:=x.Cut<y.Cut∨x.Cut=y.Cut∧(x.Asset.Maturity<y.Asset.Maturity∨x.Asset.Maturity=y.Asset.Maturity∧¬ sLt y.Lot.ISIN x.Lot.ISIN)
instance (x y:E):Decidable (leP x y):=by unfold leP;exact instDecidableOr
def leE (x y:E):Bool:=decide (leP x y)
theorem leE_iff {x y:E}:leE x y=true↔leP x y:=by unfold leE;exact decide_eq_true_iff
theorem leE_not {x y:E}:leE x y=false↔¬ leP x y:=by unfold leE;exact decide_eq_false_iff_not
theorem leE_refl (x:E):leE x x=true:=decide_eq_true (.inr ⟨rfl,.inr ⟨rfl,Qak _⟩⟩)
theorem Qa5 (a b c:E) (h1:leE a b=true) (h2:leE b c=true):leE a c=true:=by
 have h1:=of_decide_eq_true h1
 have h2:=of_decide_eq_true h2
 refine decide_eq_true ?_
 unfold leP at*
 rcases h1 with h1|⟨e1,h1|⟨f1,h1⟩⟩<;>rcases h2 with h2|⟨e2,h2|⟨f2,h2⟩⟩
 ·exact .inl (by omega)
 ·exact .inl (by omega)
 ·exact .inl (by omega)
 ·exact .inl (by omega)
 ·exact .inr ⟨by omega,.inl (by omega)⟩
 ·exact .inr ⟨by omega,.inl (by omega)⟩
 ·exact .inl (by omega)
 ·exact .inr ⟨by omega,.inl (by omega)⟩
 ·exact .inr ⟨by omega,.inr ⟨by omega,sLt_nt h2 h1⟩⟩
theorem leE_total (a b:E):leE a b=true∨leE b a=true:=by
 rw[leE_iff,leE_iff]
 unfold leP
 by_cases c1:a.Cut=b.Cut
 ·by_cases c2:a.Asset.Maturity=b.Asset.Maturity
  ·by_cases c3:sLt b.Lot.ISIN a.Lot.ISIN
   ·exact .inr (.inr ⟨c1.symm,.inr ⟨c2.symm,sLt_asymm c3⟩⟩)
   ·exact .inl (.inr ⟨c1,.inr ⟨c2,c3⟩⟩)
  ·by_cases c4:a.Asset.Maturity<b.Asset.Maturity
   ·exact .inl (.inr ⟨c1,.inl c4⟩)
   ·exact .inr (.inr ⟨c1.symm,.inl (by omega)⟩)
 ·by_cases c4:a.Cut<b.Cut
  ·exact .inl (.inl c4)
  ·exact .inr (.inl (by omega))
def cmpI (a b:Int):Int:=if a<b then -1 else if b<a then 1 else 0
def cmpB (a b:ByteArray):Int:=if sLt a b then -1 else if sLt b a then 1 else 0
theorem Qeb (a:Int):zfl_r a false:=by
 refine zfl_of ?_
 unfold zfl_w
 first|exact Rt.i (by simp)|exact Br.i (fun h=>absurd rfl h) (fun _=>Rt.i rfl)
theorem Qd3 (a:ByteArray):zfe_r a false:=by
 refine zfe_of ?_
 unfold zfe_w
 first|exact Rt.i (by simp[Qc2])|exact Br.i (fun h=>absurd rfl h) (fun _=>Rt.i rfl)
theorem Qe9 (a b:Int):zem_r a b (cmpI a b):=by
 refine zem_of ?_
 unfold zem_w cmpI
 refine⟨_,Qeb a,_,Qeb b,Br.f rfl (Br.f rfl (Br.i (fun h=>Rt.i (by rw[if_pos h])) (fun h=>Br.i (fun h1=>Rt.i ?_) (fun h1=>Rt.i ?_))))⟩
 ·rw[if_neg h,if_pos (by omega)]
 ·rw[if_neg h,if_neg (by omega)]
theorem Qbz (a b:ByteArray):zdm_r a b (cmpB a b):=by
 refine zdm_of ?_
 unfold zdm_w cmpB
 refine⟨_,Qd3 a,_,Qd3 b,Br.f rfl (Br.f rfl (Br.i (fun h=>Rt.i (by rw[if_pos h])) (fun h=>Br.i (fun h1=>Rt.i ?_) (fun h1=>Rt.i ?_))))⟩
 ·have h1:=Decidable.not_not.1 h1
  rw[if_neg h,if_pos h1]
 ·have h1:¬ sLt b a:=fun q=>h1 (fun k=>k q)
  rw[if_neg h,if_neg h1]
theorem or3 (a b c:Int):zdk_r [a,b,c] (if a=0 then if b=0 then c else b else a):=by
 refine zdk_of ?_
 unfold zdk_w
 refine zdk_l0 (Br.pos (by simp[lenM]) ⟨a,Got.i (Br.i (fun h=>Lf.i (Rt.i (by rw[if_neg h]))) (fun h=>Num.n (by decide) ?_)) (by decide) rfl⟩)
 have h:a=0:=Decidable.not_not.1 h
 rw[if_pos h]
 refine zdk_l0 (Br.pos (by simp[lenM]) ⟨b,Got.i (Br.i (fun h=>Lf.i (Rt.i (by rw[if_neg h]))) (fun h=>Num.n (by decide) ?_)) (by decide) rfl⟩)
 have h:b=0:=Decidable.not_not.1 h
 rw[if_pos h]
 refine zdk_l0 (Br.pos (by simp[lenM]) ⟨c,Got.i (Br.i (fun h=>Lf.i (Rt.i rfl)) (fun h=>Num.n (by decide) ?_)) (by decide) rfl⟩)
 have h:c=0:=Decidable.not_not.1 h
 exact zdk_l0 (Br.neg (by simp[lenM]) (Lf.i (Rt.i h.symm)))
def ordI (x y:E):Int:=if cmpI x.Cut y.Cut=0 then if cmpI x.Asset.Maturity y.Asset.Maturity=0 then cmpB x.Lot.ISIN y.Lot.ISIN else cmpI x.Asset.Maturity y.Asset.Maturity else cmpI x.Cut y.Cut
theorem order_r (x y:E):zgf_r x y (ordI x y):=by
 refine zgf_of ?_
 unfold zgf_w
 exact⟨_,Qe9 _ _,_,Qe9 _ _,_,Qbz _ _,_,or3 _ _ _,Rt.i rfl⟩
theorem ord_lt (x y:E):ordI x y<0↔leE y x=false:=by
 rw[leE_not]
 unfold ordI leP cmpI cmpB
 by_cases c1:x.Cut=y.Cut
 ·by_cases c2:x.Asset.Maturity=y.Asset.Maturity
  ·by_cases c3:sLt x.Lot.ISIN y.Lot.ISIN
   ·rw[c1,c2];simp[c3]
   ·rw[c1,c2];by_cases c4:sLt y.Lot.ISIN x.Lot.ISIN<;>simp[c3,c4]
  ·by_cases c4:x.Asset.Maturity<y.Asset.Maturity
   ·rw[c1];simp[c4];omega
   ·have c5:y.Asset.Maturity<x.Asset.Maturity:=by omega
    rw[c1];simp[c4,c5]
 ·by_cases c4:x.Cut<y.Cut
  ·simp[c4];omega
  ·have c5:y.Cut<x.Cut:=by omega
   simp[c4,c5]
def at_ (d:List E)(i:Nat):E:=(d[i]?).getD default
theorem get_at {d:List E}{i:Nat}(h:i<d.length):d[i]? = some (at_ d i):=by unfold at_;rw[List.getElem?_eq_getElem h];rfl
abbrev Big (n:Nat):Prop:=n≤1152921504606846976
theorem u64n {n:Nat}(h:n≤4611686018427387904):IntKind.u64.wrap (n:Int)=n:=by
 simp[IntKind.wrap,IntKind.bits,IntKind.signed]
 omega
theorem i64n {n:Nat}(h:n≤4611686018427387904):IntKind.i64.wrap (n:Int)=n:=by
 simp[IntKind.wrap,IntKind.bits,IntKind.signed]
 omega
theorem half {i j:Nat}(h:i+j≤4611686018427387904):IntKind.i64.wrap (Int.fdiv (IntKind.u64.wrap ((i:Int)+j)) 2)=(((i+j)/2:Nat):Int):=by
 rw[show(i:Int)+j=((i+j:Nat):Int) by omega,u64n h,Int.fdiv_eq_ediv_of_nonneg _ (by decide),show((i+j:Nat):Int)/2=(((i+j)/2:Nat):Int) by omega,i64n (by omega)]
theorem Qdd (A:List E) (x:E) (C:List E){i:Nat}(h:i=A.length):(A++x::C)[i]? = some x:=by
 subst h
 rw[List.getElem?_append_right (Nat.le_refl _)];simp
theorem set_mid (A:List E) (x:E) (C:List E) (y:E){i:Nat}(h:i=A.length):(A++x::C).set i y=A++y::C:=by
 subst h
 rw[List.set_append_right _ _ (Nat.le_refl _)]
 simp
theorem re_two (A:List E) (x:E) (B:List E) (y:E) (C:List E):A++x::(B++y::C)=(A++x::B)++y::C:=by simp
theorem Qfv (A:List E) (x:E) (B:List E) (y:E) (C:List E){j:Nat}(h:j=A.length+1+B.length):(A++x::(B++y::C))[j]? = some y:=by
 rw[re_two];exact Qdd _ _ _ (by simp;omega)
theorem set_two (A:List E) (x:E) (B:List E) (y:E) (C:List E) (u:E){j:Nat}(h:j=A.length+1+B.length):(A++x::(B++y::C)).set j u=A++x::(B++u::C):=by
 rw[re_two,set_mid _ _ _ _ (by simp;omega),←re_two]
theorem at_of {d:List E}{i:Nat}{x:E}(h:d[i]? = some x):at_ d i=x:=by unfold at_;rw[h];rfl
theorem insS_gt {R:List E}{r x:E}(h:leE r x=false):insS leE (R++[r]) x=insS leE R x++[r]:=by
 have:=Qcg (le:=leE) (A2:=[r]) (B2:=[]) R [x] (fun _ _ _ hb=>by cases hb) (fun a ha b hb=>by
  rw[List.mem_singleton.1 ha,List.mem_singleton.1 hb];exact h)
 simpa[insS,mg_nil] using this
theorem insS_le {R:List E}{x:E}(h:∀r∈R,leE r x=true):insS leE R x=R++[x]:=by
 have:=insS_back (le:=leE) x R [] h (fun a ha=>by cases ha)
 simpa using this
theorem ins_in (a b i:Int) (Q:List E→Prop):∀(n:Nat)(R X S Z:List E)(x:E)(j:Int),R.length=n→R.Pairwise (fun a b=>leE a b=true)→a=(X.length:Nat)→j=((X.length+R.length:Nat):Int)→Big (X.length+R.length+1+S.length+Z.length)→
  Q (X++(insS leE R x++(S++Z)))→zah_L1 a b i Q j (X++(R++x::(S++Z))):=by
 intro n
 induction n with
 |zero=>
  intro R X S Z x j hn hs ha hj hB h
  obtain rfl:=List.length_eq_zero_iff.1 hn
  refine zah_l1 (Br.neg (by simp at hj;omega) (Lf.i ?_))
  simpa[insS,mg] using h
 |succ n ih=>
  intro R X S Z x j hn hs ha hj hB h
  obtain⟨R0,r,rfl⟩:∃R0 r,R=R0++[r]:=⟨R.dropLast,R.getLast (by intro e;subst e;simp at hn),(List.dropLast_concat_getLast _).symm⟩
  have hn0:R0.length=n:=by simpa using hn
  simp only[Big,List.length_append,List.length_cons,List.length_nil] at hB hj
  have eL:X++((R0++[r])++x::(S++Z))=(X++R0)++r::([]++x::(S++Z)):=by simp
  have lL:((X++R0)++r::([]++x::(S++Z))).length=X.length+(R0.length+1)+1+S.length+Z.length:=by simp;omega
  have gx:((X++R0)++r::([]++x::(S++Z)))[j.toNat]? = some x:=Qfv _ _ _ _ _ (by simp;omega)
  have gr:((X++R0)++r::([]++x::(S++Z)))[(j-1).toNat]? = some r:=Qdd _ _ _ (by simp;omega)
  have s1:((X++R0)++r::([]++x::(S++Z))).set j.toNat r=(X++R0)++r::([]++r::(S++Z)):=set_two _ _ _ _ _ _ (by simp;omega)
  have s2:((X++R0)++r::([]++r::(S++Z))).set (j-1).toNat x=(X++R0)++x::([]++r::(S++Z)):=set_mid _ _ _ _ (by simp;omega)
  have gr':((X++R0)++r::([]++r::(S++Z)))[(j-1).toNat]? = some r:=Qdd _ _ _ (by simp;omega)
  have lL':((X++R0)++r::([]++r::(S++Z))).length=X.length+(R0.length+1)+1+S.length+Z.length:=by simp;omega
  rw[eL]
  refine zah_l1 (Br.pos (by omega) (InL.i ⟨x,EltG.i (Num.n (by omega) (InL.i ⟨r,EltG.i ⟨_,order_r x r,Br.i (fun c => ?_) (fun c=>Lf.i ?_)⟩ gr⟩ (by omega) (by rw[lL];omega))) gx⟩ (by omega) (by rw[lL];omega)))
  ·have c:leE r x=false:=(ord_lt x r).1 c
   refine Num.n (by omega) (Num.n (by omega) (InL.i (EltG.i (InL.i (EltG.i (InL.i (EltS.i ?_ gx) (by omega) (by rw[lL];omega)) gx) (by omega) (by rw[lL];omega)) gr) (by omega) (by rw[lL];omega)))
   rw[s1]
   refine InL.i ⟨r,EltS.i (Num.n (by omega) ?_) gr'⟩ (by omega) (by rw[lL'];omega)
   rw[s2]
   have:=ih R0 X (r::S) Z x (j-1) hn0 (List.pairwise_append.1 hs).1 ha (by omega) (by simp[Big];omega) (by
    rw[insS_gt c] at h
    simpa using h)
   simpa using this
  ·have c':leE r x=true:=by
    cases hc:leE r x with
    |true=>rfl
    |false=>exact absurd ((ord_lt x r).2 hc) c
   rw[insS_le (fun a ha=>by
    rcases List.mem_append.1 ha with h1|h1
    ·exact Qa5 _ _ _ ((List.pairwise_append.1 hs).2.2 a h1 r (by simp)) c'
    ·rw[List.mem_singleton.1 h1];exact c')] at h
   simpa using h
theorem ins_out (Q:List E→Prop) (a b:Int):∀(V P X Y:List E)(i:Int),P.Pairwise (fun a b=>leE a b=true)→a=(X.length:Nat)→b=((X.length+P.length+V.length:Nat):Int)→i=((X.length+P.length:Nat):Int)→Big (X.length+P.length+V.length+Y.length)→
  Q (X++(V.foldl (insS leE) P++Y))→zah_L0 a b Q i (X++(P++(V++Y))):=by
 intro V
 induction V with
 |nil=>
  intro P X Y i hs ha hb hi hB h
  refine zah_l0 (Br.neg (by simp at hb;omega) (Lf.i ?_))
  simpa using h
 |cons x V ih=>
  intro P X Y i hs ha hb hi hB h
  simp only[Big,List.length_cons] at hb hB
  refine zah_l0 (Br.pos (by omega) ?_)
  have:=ins_in a b i (fun ya1=>Num .i64 (i+1) (zah_L0 a b Q (i+1) ya1)) P.length P X [] (V++Y) x i rfl hs ha hi (by simp[Big];omega) (Num.n (by omega) (by
   have:=ih (insS leE P x) X Y (i+1) (Qe1 Qa5 leE_total _ _ hs (List.pairwise_singleton _ _)) ha (by simp[insS,Qcb];omega) (by simp[insS,Qcb];omega) (by simp[Big,insS,Qcb];omega) h
   simpa using this))
  simpa using this
theorem ins_f (X U Y:List E){a b:Int}(ha:a=(X.length:Nat)) (hb:b=((X.length+U.length:Nat):Int)) (hB:Big (X.length+U.length+Y.length)):
  zah_r (X++(U++Y)) a b (X++(isort leE U++Y)):=by
 simp only[Big] at hB
 refine zah_of ?_
 unfold zah_w
 refine Num.n (by omega) ?_
 cases U with
 |nil=>
  refine zah_l0 (Br.neg (by simp at hb;omega) (Lf.i (Rt.i ?_)))
  simp[isort]
 |cons u U=>
  simp only[List.length_cons] at hb hB
  have:=ins_out (fun y1=>zah_e (fun v_=>v_=X++(isort leE (u::U)++Y)) y1) a b U [u] X Y (a+1) (List.pairwise_singleton _ _) ha (by simp;omega) (by simp;omega) (by simp[Big];omega) (Rt.i (by simp[isort,insS,mg]))
  simpa using this
end Go.Proofs.YtjlkmdmaimednaaGreat.Pure
namespace Go.Proofs.YtjlkmdmaimednaaGreat.Pure
open Go Go.Ab Go.Stable Go.Proofs.YtjlkmdmaimednaaGreat.R
theorem sw_go (Q:List E→Prop) (a b n:Int):∀(U V A M C:List E)(i:Int),U.length=V.length→a+i=(A.length:Nat)→b+i=((A.length+U.length+M.length:Nat):Int)→i+U.length=n→0≤i→0≤a→0≤b→Big (A.length+U.length+M.length+V.length+C.length)→
  Q (A++(V++(M++(U++C))))→zas_L0 a b n Q i (A++(U++(M++(V++C)))):=by
 intro U
 induction U with
 |nil=>
  intro V A M C i hl ha hb hi h0 h1 h2 hB h
  obtain rfl:=List.length_eq_zero_iff.1 hl.symm
  exact zas_l0 (Br.neg (by simp at hi;omega) (Lf.i (by simpa using h)))
 |cons u U ih=>
  intro V A M C i hl ha hb hi h0 h1 h2 hB h
  cases V with
  |nil=>simp at hl
  |cons v V=>
   have hl':U.length=V.length:=by simpa using hl
   simp only[Big,List.length_cons] at hB hb hi
   have eL:A++(u::U++(M++(v::V++C)))=A++u::((U++M)++v::(V++C)):=by simp
   have lL:(A++u::((U++M)++v::(V++C))).length=A.length+1+U.length+M.length+1+V.length+C.length:=by simp;omega
   have lL':(A++v::((U++M)++v::(V++C))).length=A.length+1+U.length+M.length+1+V.length+C.length:=by simp;omega
   have gu:(A++u::((U++M)++v::(V++C)))[(a+i).toNat]? = some u:=Qdd _ _ _ (by omega)
   have gv:(A++u::((U++M)++v::(V++C)))[(b+i).toNat]? = some v:=Qfv _ _ _ _ _ (by simp<;>omega)
   have gv':(A++v::((U++M)++v::(V++C)))[(b+i).toNat]? = some v:=Qfv _ _ _ _ _ (by simp<;>omega)
   have s1:(A++u::((U++M)++v::(V++C))).set (a+i).toNat v=A++v::((U++M)++v::(V++C)):=set_mid _ _ _ _ (by omega)
   have s2:(A++v::((U++M)++v::(V++C))).set (b+i).toNat u=A++v::((U++M)++u::(V++C)):=set_two _ _ _ _ _ _ (by simp<;>omega)
   rw[eL]
   refine zas_l0 (Br.pos (by omega) (Num.n (by omega) (Num.n (by omega) (Num.n (by omega) (InL.i ⟨v,EltG.i (Num.n (by omega) (InL.i ⟨u,EltG.i (InL.i (EltS.i ?_ gu) (by omega) (by rw[lL];omega)) gu⟩ (by omega) (by rw[lL];omega))) gv⟩ (by omega) (by rw[lL];omega))))))
   rw[s1]
   refine InL.i ⟨v,EltS.i (Num.n (by omega) ?_) gv'⟩ (by omega) (by rw[lL'];omega)
   rw[s2]
   have:=ih V (A++[v]) (M++[u]) C (i+1) hl' (by simp<;>omega) (by simp<;>omega) (by omega) (by omega) h1 h2 (by simp[Big];omega) (by simpa using h)
   simpa using this
theorem sw_f (A U M V C:List E){a b n:Int}(hl:U.length=V.length) (ha:a=(A.length:Nat)) (hb:b=((A.length+U.length+M.length:Nat):Int)) (hn:n=(U.length:Nat)) (hB:Big (A.length+U.length+M.length+V.length+C.length)):
  zas_r (A++(U++(M++(V++C)))) a b n (A++(V++(M++(U++C)))):=by
 refine zas_of ?_
 unfold zas_w
 exact sw_go _ a b n U V A M C 0 hl (by omega) (by omega) (by omega) (by omega) (by omega) (by omega) hB (Rt.i rfl)
theorem rot_go (Q:Int×List E→Prop) (m:Int) (R:List E) (HQ:∀i d,(∃r2,zas_r d (m-i) m i r2∧r2=R)→0≤i→i≤m→Q (i,d)):∀(N:Nat)(P U V S:List E)(i j:Int),U.length+V.length≤N→i=(U.length:Nat)→j=(V.length:Nat)→0<i→0<j→m=((P.length+U.length:Nat):Int)→Big (P.length+U.length+V.length+S.length)→
  R=P++(V++(U++S))→zav_L0 m Q i (P++(U++(V++S))) j:=by
 intro N
 induction N with
 |zero=>intro P U V S i j hN hi hj h0 h1 hm hB hR;omega
 |succ N ih=>
  intro P U V S i j hN hi hj h0 h1 hm hB hR
  simp only[Big] at hB
  by_cases c:i=j
  ·have s:=sw_f P U [] V S (a:=m-i) (b:=m) (n:=i) (by omega) (by omega) (by simp<;>omega) (by omega) (by simpa[Big] using hB)
   refine zav_l0 (Br.neg (fun h=>h c) (Lf.i (HQ _ _ ⟨_,by simpa using s,by first|exact hR.symm|(rw[hR];simp)⟩ (by omega) (by omega))))
  ·by_cases c2:i>j
   ·obtain⟨U1,U2,rfl,hU1⟩:∃U1 U2,U=U1++U2∧U1.length=V.length:=⟨U.take V.length,U.drop V.length,(List.take_append_drop ..).symm,by simp;omega⟩
    simp only[List.length_append] at hi hm hN hB
    have s:=sw_f P U1 U2 V S (a:=m-i) (b:=m) (n:=j) (by omega) (by omega) (by omega) (by omega) (by unfold Big;omega)
    have:=ih (P++V) U2 U1 S (i-j) j (by omega) (by omega) (by omega) (by omega) h1 (by simp<;>omega) (by simp[Big];omega) (by rw[hR];simp)
    refine zav_l0 (Br.pos c (Br.pos c2 (Num.n (by omega) ⟨_,by simpa using s,Num.n (by omega) (by simpa using this)⟩)))
   ·obtain⟨V1,V2,rfl,hV2⟩:∃V1 V2,V=V1++V2∧V2.length=U.length:=⟨V.take (V.length-U.length),V.drop (V.length-U.length),(List.take_append_drop ..).symm,by simp;omega⟩
    simp only[List.length_append] at hj hN hB
    have s:=sw_f P U V1 V2 S (a:=m-i) (b:=m+j-i) (n:=i) (by omega) (by omega) (by omega) (by omega) (by unfold Big;omega)
    have:=ih P V2 V1 (U++S) i (j-i) (by omega) (by omega) (by omega) h0 (by omega) (by omega) (by simp[Big];omega) (by rw[hR];simp)
    refine zav_l0 (Br.pos c (Br.neg c2 (Num.n (by omega) (Num.n (by omega) (Num.n (by omega) ⟨_,by simpa using s,Num.n (by omega) (by simpa using this)⟩)))))
theorem rot_f (P U V S:List E){a m b:Int}(ha:a=(P.length:Nat)) (hm:m=((P.length+U.length:Nat):Int)) (hb:b=((P.length+U.length+V.length:Nat):Int)) (h0:0<U.length) (h1:0<V.length) (hB:Big (P.length+U.length+V.length+S.length)):
  zav_r (P++(U++(V++S))) a m b (P++(V++(U++S))):=by
 simp only[Big] at hB
 refine zav_of ?_
 unfold zav_w
 exact Num.n (by omega) (Num.n (by omega) (rot_go _ m (P++(V++(U++S))) (fun i d hd h1 h2=>by
  obtain⟨r2,hr,rfl⟩:=hd
  exact Num.n (by omega) ⟨_,hr,Rt.i rfl⟩) _ P U V S _ _ (Nat.le_refl _) (by omega) (by omega) (by omega) (by omega) hm hB rfl))
end Go.Proofs.YtjlkmdmaimednaaGreat.Pure
namespace Go.Proofs.YtjlkmdmaimednaaGreat.Pure
open Go Go.Ab Go.Stable Go.Proofs.YtjlkmdmaimednaaGreat.R
abbrev Srt (U:List E):Prop:=U.Pairwise (fun a b=>leE a b=true)
theorem get_c {d:List E}{n:Nat}(h:n<d.length):d[((n:Nat):Int).toNat]? = some (at_ d n):=get_at h
theorem ord_ge {x y:E}(h:¬ ordI x y<0):leE y x=true:=by
 cases hc:leE y x with
 |true=>rfl
 |false=>exact absurd ((ord_lt x y).2 hc) h
theorem sm_l0 {a:Nat}{d:List E}{Q:Int→Prop}{i j:Nat}(hd:Big d.length) (ha:a<d.length) (hij:j≤d.length)
  (h1:i<j→leE (at_ d a) (at_ d ((i+j)/2))=false→zac_L0 a d Q (((i+j)/2+1:Nat):Int) j)
  (h2:i<j→leE (at_ d a) (at_ d ((i+j)/2))=true→zac_L0 a d Q i (((i+j)/2:Nat):Int)) (h3:¬ i<j→Q i):zac_L0 a d Q i j:=by
 have hB:d.length≤1152921504606846976:=hd
 refine zac_l0 ?_
 unfold zac_w0
 by_cases h:i<j
 ·rw[half (i:=i) (j:=j) (by omega),show(((i+j)/2:Nat):Int)+1=(((i+j)/2+1:Nat):Int) by omega]
  exact Br.pos (by omega) (Num.n (by omega) (InL.i ⟨_,EltG.i (InL.i ⟨_,EltG.i ⟨_,order_r _ _,Br.i (fun c=>Num.n (by omega) (h1 h ((ord_lt _ _).1 c))) (fun c=>h2 h (ord_ge c))⟩ (get_c ha)⟩ (by omega) (by omega)) (get_c (by omega))⟩ (by omega) (by omega)))
 ·exact Br.neg (by omega) (Lf.i (h3 h))
theorem sm_find0 (d:List E) (a m b:Nat) (hd:Big d.length) (ha:a<d.length) (hb:b≤d.length) (hmono:∀x y,m≤x→x≤y→y<b→leE (at_ d a) (at_ d x)=true→leE (at_ d a) (at_ d y)=true):
  ∀(n i j:Nat),j-i≤n→m≤i→i≤j→j≤b→(∀h,m≤h→h<i→leE (at_ d a) (at_ d h)=false)→(∀h,j≤h→h<b→leE (at_ d a) (at_ d h)=true)→
  ∃r,m≤r∧r≤b∧(∀h,m≤h→h<r→leE (at_ d a) (at_ d h)=false)∧(∀h,r≤h→h<b→leE (at_ d a) (at_ d h)=true)∧
   ∀Q:Int→Prop,Q r→zac_L0 a d Q i j:=by
 intro n
 induction n with
 |zero=>
  intro i j hn hm hij hjb h1 h2
  obtain rfl:i=j:=by omega
  exact⟨i,hm,hjb,h1,h2,fun Q hr=>sm_l0 hd ha (by omega) (fun h=>by omega) (fun h=>by omega) (fun _=>hr)⟩
 |succ n ih=>
  intro i j hn hm hij hjb h1 h2
  by_cases h:i<j
  ·by_cases c:leE (at_ d a) (at_ d ((i+j)/2))=false
   ·obtain⟨r,r1,r2,r3,r4,r5⟩:=ih ((i+j)/2+1) j (by omega) (by omega) (by omega) hjb (fun x hx1 hx2=>by
     by_cases hx:x<i
     ·exact h1 x hx1 hx
     ·cases hc:leE (at_ d a) (at_ d x) with
      |false=>rfl
      |true=>rw[hmono x ((i+j)/2) hx1 (by omega) (by omega) hc] at c;cases c) h2
    exact⟨r,r1,r2,r3,r4,fun Q hr=>sm_l0 hd ha (by omega) (fun _ _=>r5 Q hr) (fun _ c'=>by rw[c] at c';cases c') (fun c'=>absurd h c')⟩
   ·have c':leE (at_ d a) (at_ d ((i+j)/2))=true:=by simpa using c
    obtain⟨r,r1,r2,r3,r4,r5⟩:=ih i ((i+j)/2) (by omega) hm (by omega) (by omega) h1 (fun x hx1 hx2=>hmono ((i+j)/2) x (by omega) hx1 hx2 c')
    exact⟨r,r1,r2,r3,r4,fun Q hr=>sm_l0 hd ha (by omega) (fun _ c2=>absurd c2 c) (fun _ _=>r5 Q hr) (fun c'=>absurd h c')⟩
  ·obtain rfl:i=j:=by omega
   exact⟨i,hm,hjb,h1,h2,fun Q hr=>sm_l0 hd ha (by omega) (fun h=>by omega) (fun h=>by omega) (fun _=>hr)⟩
theorem sm_l1 (Q:List E→Prop) (r:Int):∀(V A C:List E)(u:E)(i:Int),i=(A.length:Nat)→r=((A.length+1+V.length:Nat):Int)→Big (A.length+1+V.length+C.length)→
  Q (A++(V++u::C))→zac_L1 r Q i (A++u::(V++C)):=by
 intro V
 induction V with
 |nil=>
  intro A C u i hi hr hB h
  simp only[Big,List.length_nil] at hr hB
  exact zac_l1 (Num.n (by omega) (Br.neg (by omega) (Lf.i (by simpa using h))))
 |cons v V ih=>
  intro A C u i hi hr hB h
  simp only[Big,List.length_cons] at hr hB
  have eL:A++u::(v::V++C)=A++u::([]++v::(V++C)):=by simp
  have lL:(A++u::([]++v::(V++C))).length=A.length+1+(V.length+1)+C.length:=by simp;omega
  have lL':(A++v::([]++v::(V++C))).length=A.length+1+(V.length+1)+C.length:=by simp;omega
  have gu:(A++u::([]++v::(V++C)))[i.toNat]? = some u:=Qdd _ _ _ (by omega)
  have gv:(A++u::([]++v::(V++C)))[(i+1).toNat]? = some v:=Qfv _ _ _ _ _ (by simp<;>omega)
  have gv':(A++v::([]++v::(V++C)))[(i+1).toNat]? = some v:=Qfv _ _ _ _ _ (by simp<;>omega)
  have s1:(A++u::([]++v::(V++C))).set i.toNat v=A++v::([]++v::(V++C)):=set_mid _ _ _ _ (by omega)
  have s2:(A++v::([]++v::(V++C))).set (i+1).toNat u=A++v::([]++u::(V++C)):=set_two _ _ _ _ _ _ (by simp<;>omega)
  rw[eL]
  refine zac_l1 (Num.n (by omega) (Br.pos (by omega) (Num.n (by omega) (Num.n (by omega) (InL.i ⟨v,EltG.i (InL.i ⟨u,EltG.i (InL.i (EltS.i ?_ gu) (by omega) (by rw[lL];omega)) gu⟩ (by omega) (by rw[lL];omega)) gv⟩ (by omega) (by rw[lL];omega))))))
  rw[s1]
  refine InL.i ⟨v,EltS.i (Num.n (by omega) ?_) gv'⟩ (by omega) (by rw[lL'];omega)
  rw[s2]
  have:=ih (A++[v]) C u (i+1) (by simp<;>omega) (by simp<;>omega) (by simp[Big];omega) (by simpa using h)
  simpa using this
theorem sm_l2 {m:Nat}{d:List E}{Q:Int→Prop}{i j:Nat}(hd:Big d.length) (hm:m<d.length) (hij:j≤d.length)
  (h1:i<j→leE (at_ d ((i+j)/2)) (at_ d m)=false→zac_L2 m d Q i (((i+j)/2:Nat):Int))
  (h2:i<j→leE (at_ d ((i+j)/2)) (at_ d m)=true→zac_L2 m d Q (((i+j)/2+1:Nat):Int) j) (h3:¬ i<j→Q i):zac_L2 m d Q i j:=by
 have hB:d.length≤1152921504606846976:=hd
 refine zac_l2 ?_
 unfold zac_w2
 by_cases h:i<j
 ·rw[half (i:=i) (j:=j) (by omega),show(((i+j)/2:Nat):Int)+1=(((i+j)/2+1:Nat):Int) by omega]
  exact Br.pos (by omega) (Num.n (by omega) (InL.i ⟨_,EltG.i (InL.i ⟨_,EltG.i ⟨_,order_r _ _,Br.i (fun c=>Num.n (by omega) (h2 h (ord_ge c))) (fun c=>h1 h ((ord_lt _ _).1 (Decidable.not_not.1 c)))⟩ (get_c (by omega))⟩ (by omega) (by omega)) (get_c hm)⟩ (by omega) (by omega)))
 ·exact Br.neg (by omega) (Lf.i (h3 h))
theorem sm_find2 (d:List E) (a m:Nat) (hd:Big d.length) (hm:m<d.length) (hmono:∀x y,a≤x→x≤y→y<m→leE (at_ d y) (at_ d m)=true→leE (at_ d x) (at_ d m)=true):
  ∀(n i j:Nat),j-i≤n→a≤i→i≤j→j≤m→(∀h,a≤h→h<i→leE (at_ d h) (at_ d m)=true)→(∀h,j≤h→h<m→leE (at_ d h) (at_ d m)=false)→
  ∃r,a≤r∧r≤m∧(∀h,a≤h→h<r→leE (at_ d h) (at_ d m)=true)∧(∀h,r≤h→h<m→leE (at_ d h) (at_ d m)=false)∧
   ∀Q:Int→Prop,Q r→zac_L2 m d Q i j:=by
 intro n
 induction n with
 |zero=>
  intro i j hn ha hij hjb h1 h2
  obtain rfl:i=j:=by omega
  exact⟨i,ha,hjb,h1,h2,fun Q hr=>sm_l2 hd hm (by omega) (fun h=>by omega) (fun h=>by omega) (fun _=>hr)⟩
 |succ n ih=>
  intro i j hn ha hij hjb h1 h2
  by_cases h:i<j
  ·by_cases c:leE (at_ d ((i+j)/2)) (at_ d m)=false
   ·obtain⟨r,r1,r2,r3,r4,r5⟩:=ih i ((i+j)/2) (by omega) ha (by omega) (by omega) h1 (fun x hx1 hx2=>by
     cases hc:leE (at_ d x) (at_ d m) with
     |false=>rfl
     |true=>rw[hmono ((i+j)/2) x (by omega) hx1 hx2 hc] at c;cases c)
    exact⟨r,r1,r2,r3,r4,fun Q hr=>sm_l2 hd hm (by omega) (fun _ _=>r5 Q hr) (fun _ c'=>by rw[c] at c';cases c') (fun c'=>absurd h c')⟩
   ·have c':leE (at_ d ((i+j)/2)) (at_ d m)=true:=by simpa using c
    obtain⟨r,r1,r2,r3,r4,r5⟩:=ih ((i+j)/2+1) j (by omega) (by omega) (by omega) hjb (fun x hx1 hx2=>by
     by_cases hx:x<i
     ·exact h1 x hx1 hx
     ·exact hmono x ((i+j)/2) hx1 (by omega) (by omega) c') h2
    exact⟨r,r1,r2,r3,r4,fun Q hr=>sm_l2 hd hm (by omega) (fun _ c2=>absurd c2 c) (fun _ _=>r5 Q hr) (fun c'=>absurd h c')⟩
  ·obtain rfl:i=j:=by omega
   exact⟨i,ha,hjb,h1,h2,fun Q hr=>sm_l2 hd hm (by omega) (fun h=>by omega) (fun h=>by omega) (fun _=>hr)⟩
theorem sm_l3 (Q:List E→Prop) (r:Int):∀(n:Nat)(U A C:List E)(v:E)(i:Int),U.length=n→r=(A.length:Nat)→i=((A.length+U.length:Nat):Int)→Big (A.length+U.length+1+C.length)→
  Q (A++v::(U++C))→zac_L3 r Q i (A++(U++v::C)):=by
 intro n
 induction n with
 |zero=>
  intro U A C v i hn hr hi hB h
  obtain rfl:=List.length_eq_zero_iff.1 hn
  simp only[List.length_nil] at hi
  exact zac_l3 (Br.neg (by omega) (Lf.i (by simpa using h)))
 |succ n ih=>
  intro U A C v i hn hr hi hB h
  obtain⟨U0,u,rfl⟩:∃U0 u,U=U0++[u]:=⟨U.dropLast,U.getLast (by intro e;subst e;simp at hn),(List.dropLast_concat_getLast _).symm⟩
  simp only[Big,List.length_append,List.length_cons,List.length_nil] at hi hB hn
  have eL:A++((U0++[u])++v::C)=(A++U0)++u::([]++v::C):=by simp
  have lL:((A++U0)++u::([]++v::C)).length=A.length+(U0.length+1)+1+C.length:=by simp;omega
  have lL':((A++U0)++u::([]++u::C)).length=A.length+(U0.length+1)+1+C.length:=by simp;omega
  have gv:((A++U0)++u::([]++v::C))[i.toNat]? = some v:=Qfv _ _ _ _ _ (by simp<;>omega)
  have gu:((A++U0)++u::([]++v::C))[(i-1).toNat]? = some u:=Qdd _ _ _ (by simp<;>omega)
  have gu':((A++U0)++u::([]++u::C))[(i-1).toNat]? = some u:=Qdd _ _ _ (by simp<;>omega)
  have s1:((A++U0)++u::([]++v::C)).set i.toNat u=(A++U0)++u::([]++u::C):=set_two _ _ _ _ _ _ (by simp<;>omega)
  have s2:((A++U0)++u::([]++u::C)).set (i-1).toNat v=(A++U0)++v::([]++u::C):=set_mid _ _ _ _ (by simp<;>omega)
  rw[eL]
  refine zac_l3 (Br.pos (by omega) (Num.n (by omega) (Num.n (by omega) (InL.i ⟨u,EltG.i (InL.i ⟨v,EltG.i (InL.i (EltS.i ?_ gv) (by omega) (by rw[lL];omega)) gv⟩ (by omega) (by rw[lL];omega)) gu⟩ (by omega) (by rw[lL];omega)))))
  rw[s1]
  refine InL.i ⟨u,EltS.i (Num.n (by omega) ?_) gu'⟩ (by omega) (by rw[lL'];omega)
  rw[s2]
  have:=ih U0 A (u::C) v (i-1) (by omega) hr (by omega) (by simp[Big];omega) (by simpa using h)
  simpa using this
end Go.Proofs.YtjlkmdmaimednaaGreat.Pure
namespace Go.Proofs.YtjlkmdmaimednaaGreat.Pure
open Go Go.Ab Go.Stable Go.Proofs.YtjlkmdmaimednaaGreat.R
theorem sm_l4 {a m b:Nat}{d:List E}{Q:Int→Prop}{s r p:Nat}(hp0:p=(a+b)/2+m-1) (hab:a+b≤2305843009213693952) (hm0:0<m) (hmb:m≤1152921504606846976) (hd:Big d.length) (hp:p-s<d.length) (hrd:r≤d.length) (hr:r≤p+1)
  (h1:s<r→leE (at_ d ((s+r)/2)) (at_ d (p-(s+r)/2))=false→zac_L4 a m b d Q s (((s+r)/2:Nat):Int))
  (h2:s<r→leE (at_ d ((s+r)/2)) (at_ d (p-(s+r)/2))=true→zac_L4 a m b d Q (((s+r)/2+1:Nat):Int) r) (h3:¬ s<r→Q s):zac_L4 a m b d Q s r:=by
 have hB:d.length≤1152921504606846976:=hd
 refine zac_l4 ?_
 unfold zac_w4
 by_cases h:s<r
 ·rw[half (i:=s) (j:=r) (by omega),half (i:=a) (j:=b) (by omega),show(((s+r)/2:Nat):Int)+1=(((s+r)/2+1:Nat):Int) by omega,show(((a+b)/2:Nat):Int)+(m:Int)-1-(((s+r)/2:Nat):Int)=((p-(s+r)/2:Nat):Int) by omega]
  exact Br.pos (by omega) (Num.n (by omega) (Num.n (by omega) (InL.i ⟨_,EltG.i (InL.i ⟨_,EltG.i ⟨_,order_r _ _,Br.i (fun c=>Num.n (by omega) (h2 h (ord_ge c))) (fun c=>h1 h ((ord_lt _ _).1 (Decidable.not_not.1 c)))⟩ (get_c (by omega))⟩ (by omega) (by omega)) (get_c (by omega))⟩ (by omega) (by omega))))
 ·exact Br.neg (by omega) (Lf.i (h3 h))
theorem sm_find4 (d:List E) (a m b p s0 r0:Nat) (hp0:p=(a+b)/2+m-1) (hab:a+b≤2305843009213693952) (hm0:0<m) (hmb:m≤1152921504606846976) (hd:Big d.length) (hp:p-s0<d.length) (hrd:r0≤d.length) (hr0:r0≤p+1) (hmono:∀x y,s0≤x→x≤y→y<r0→leE (at_ d y) (at_ d (p-y))=true→leE (at_ d x) (at_ d (p-x))=true):
  ∀(q s r:Nat),r-s≤q→s0≤s→s≤r→r≤r0→(∀c,s0≤c→c<s→leE (at_ d c) (at_ d (p-c))=true)→(∀c,r≤c→c<r0→leE (at_ d c) (at_ d (p-c))=false)→
  ∃z,s0≤z∧z≤r0∧(∀c,s0≤c→c<z→leE (at_ d c) (at_ d (p-c))=true)∧(∀c,z≤c→c<r0→leE (at_ d c) (at_ d (p-c))=false)∧
   ∀Q:Int→Prop,Q z→zac_L4 a m b d Q s r:=by
 intro q
 induction q with
 |zero=>
  intro s r hq h0 hsr hr h1 h2
  obtain rfl:s=r:=by omega
  exact⟨s,h0,hr,h1,h2,fun Q hz=>sm_l4 hp0 hab hm0 hmb hd (by omega) (by omega) (by omega) (fun h=>by omega) (fun h=>by omega) (fun _=>hz)⟩
 |succ q ih=>
  intro s r hq h0 hsr hr h1 h2
  by_cases h:s<r
  ·by_cases c:leE (at_ d ((s+r)/2)) (at_ d (p-(s+r)/2))=false
   ·obtain⟨z,z1,z2,z3,z4,z5⟩:=ih s ((s+r)/2) (by omega) h0 (by omega) (by omega) h1 (fun x hx1 hx2=>by
     cases hc:leE (at_ d x) (at_ d (p-x)) with
     |false=>rfl
     |true=>rw[hmono ((s+r)/2) x (by omega) hx1 hx2 hc] at c;cases c)
    exact⟨z,z1,z2,z3,z4,fun Q hz=>sm_l4 hp0 hab hm0 hmb hd (by omega) (by omega) (by omega) (fun _ _=>z5 Q hz) (fun _ c'=>by rw[c] at c';cases c') (fun c'=>absurd h c')⟩
   ·have c':leE (at_ d ((s+r)/2)) (at_ d (p-(s+r)/2))=true:=by simpa using c
    obtain⟨z,z1,z2,z3,z4,z5⟩:=ih ((s+r)/2+1) r (by omega) (by omega) (by omega) hr (fun x hx1 hx2=>by
     by_cases hx:x<s
     ·exact h1 x hx1 hx
     ·exact hmono x ((s+r)/2) hx1 (by omega) (by omega) c') h2
    exact⟨z,z1,z2,z3,z4,fun Q hz=>sm_l4 hp0 hab hm0 hmb hd (by omega) (by omega) (by omega) (fun _ c2=>absurd c2 c) (fun _ _=>z5 Q hz) (fun c'=>absurd h c')⟩
  ·obtain rfl:s=r:=by omega
   exact⟨s,h0,hr,h1,h2,fun Q hz=>sm_l4 hp0 hab hm0 hmb hd (by omega) (by omega) (by omega) (fun h=>by omega) (fun h=>by omega) (fun _=>hz)⟩
theorem at_app (X U C:List E){i:Nat}(h:i<U.length):at_ (X++(U++C)) (X.length+i)=U[i]:=by
 unfold at_
 rw[List.getElem?_append_right (by omega),Nat.add_sub_cancel_left,List.getElem?_append_left h,List.getElem?_eq_getElem h]
 rfl
theorem srt_at {U:List E}(X C:List E) (hU:Srt U){x y:Nat}(h1:X.length≤x) (h2:x≤y) (h3:y<X.length+U.length):leE (at_ (X++(U++C)) x) (at_ (X++(U++C)) y)=true:=by
 obtain⟨i,rfl⟩:∃i,x=X.length+i:=⟨x-X.length,by omega⟩
 obtain⟨j,rfl⟩:∃j,y=X.length+j:=⟨y-X.length,by omega⟩
 rw[at_app X U C (by omega),at_app X U C (by omega)]
 by_cases e:i=j
 ·subst e;exact leE_refl _
 ·exact List.pairwise_iff_getElem.1 hU i j (by omega) (by omega) (by omega)
theorem Qda {U:List E}(X C:List E){n:Nat}{z:E}(h:z∈U.take n):∃x,X.length≤x∧x<X.length+n∧x<X.length+U.length∧z=at_ (X++(U++C)) x:=by
 obtain⟨i,hi,rfl⟩:=List.getElem_of_mem h
 rw[List.length_take] at hi
 refine⟨X.length+i,by omega,by omega,by omega,?_⟩
 rw[at_app X U C (by omega),List.getElem_take]
theorem Qdb {U:List E}(X C:List E){n:Nat}{z:E}(h:z∈U.drop n):∃x,X.length+n≤x∧x<X.length+U.length∧z=at_ (X++(U++C)) x:=by
 obtain⟨i,hi,rfl⟩:=List.getElem_of_mem h
 rw[List.length_drop] at hi
 refine⟨X.length+(n+i),by omega,by omega,?_⟩
 rw[at_app X U C (by omega),List.getElem_drop]
theorem Qbj {l:List E}{n:Nat}(h:n≤l.length):(l.take n).length=n:=by rw[List.length_take];omega
theorem srt_take {U:List E}(h:Srt U) (n:Nat):Srt (U.take n):=h.sublist (List.take_sublist ..)
theorem srt_drop {U:List E}(h:Srt U) (n:Nat):Srt (U.drop n):=h.sublist (List.drop_sublist ..)
set_option maxHeartbeats 2000000 in
theorem sm_gen (N:Nat) (ih:∀(X U V Y:List E),U.length+V.length≤N→0<U.length→0<V.length→Srt U→Srt V→Big (X.length+U.length+V.length+Y.length)→
   zac_r (X++(U++(V++Y))) (X.length:Nat) ((X.length+U.length:Nat):Int) ((X.length+U.length+V.length:Nat):Int) (X++(mg leE U V++Y)))
  (X U V Y:List E) (hN:U.length+V.length≤N+1) (hU0:1<U.length) (hV0:1<V.length) (hU:Srt U) (hV:Srt V) (hB:Big (X.length+U.length+V.length+Y.length))
  {a m b mid n p s0 r0:Nat} (ha:a=X.length) (hm:m=X.length+U.length) (hb:b=X.length+U.length+V.length) (hmid:mid=(a+b)/2) (hn:n=mid+m) (hp:p=n-1)
  (hs:(mid<m∧s0=n-b∧r0=mid)∨(m≤mid∧s0=a∧r0=m)) (Q:List E→Prop) (HQ:zac_e Q (X++(mg leE U V++Y))):
  zac_j0 a m b (X++(U++(V++Y))) Q ((s0:Int),(r0:Int)):=by
 have hB':X.length+U.length+V.length+Y.length≤1152921504606846976:=hB
 have hlen:(X++(U++(V++Y))).length=X.length+U.length+V.length+Y.length:=by simp;omega
 have eV:X++(U++(V++Y))=(X++U)++(V++Y):=by simp
 have lXU:(X++U).length=m:=by simp;omega
 have sU:∀x y,a≤x→x≤y→y<m→leE (at_ (X++(U++(V++Y))) x) (at_ (X++(U++(V++Y))) y)=true:=fun x y h1 h2 h3=>srt_at X (V++Y) hU (by omega) h2 (by omega)
 have sV:∀x y,m≤x→x≤y→y<b→leE (at_ (X++(U++(V++Y))) x) (at_ (X++(U++(V++Y))) y)=true:=fun x y h1 h2 h3=>by rw[eV];exact srt_at (X++U) Y hV (by omega) h2 (by omega)
 obtain⟨s,z1,z2,z3,z4,z5⟩:=sm_find4 (X++(U++(V++Y))) a m b p s0 r0 (by omega) (by omega) (by omega) (by omega) (by rw[hlen];exact hB) (by omega) (by omega) (by omega)
  (fun x y h1 h2 h3 hq=>Qa5 _ _ _ (sU x y (by omega) h2 (by omega)) (Qa5 _ _ _ hq (sV (p-y) (p-x) (by omega) (by omega) (by omega))))
  (r0-s0) s0 r0 (Nat.le_refl _) (Nat.le_refl _) (by omega) (Nat.le_refl _) (fun c h1 h2=>by omega) (fun c h1 h2=>by omega)
 obtain⟨e,he⟩:∃e,e=n-s:=⟨_,rfl⟩
 have b1:a≤s:=by omega
 have b2:s≤m:=by omega
 have b3:m≤e:=by omega
 have b4:e≤b:=by omega
 have lA1:(U.take (s-a)).length=s-a:=Qbj (by omega)
 have lB1:(V.take (e-m)).length=e-m:=Qbj (by omega)
 have lA2:(U.drop (s-a)).length=m-s:=by rw[List.length_drop];omega
 have lB2:(V.drop (e-m)).length=b-e:=by rw[List.length_drop];omega
 have c1:∀x∈U.take (s-a),∀y∈V.drop (e-m),leE x y=true:=by
  intro x hx y hy
  obtain⟨i,i1,i2,i3,rfl⟩:=Qda X (V++Y) hx
  obtain⟨j,j1,j2,rfl⟩:=Qdb (X++U) Y hy
  rw[←eV]
  rw[lXU] at j1 j2
  have hq:=z3 (s-1) (by omega) (by omega)
  rw[show p-(s-1)=e from by omega] at hq
  exact Qa5 _ _ _ (sU i (s-1) (by omega) (by omega) (by omega)) (Qa5 _ _ _ hq (sV e j (by omega) (by omega) (by omega)))
 have c2:∀x∈U.drop (s-a),∀y∈V.take (e-m),leE x y=false:=by
  intro x hx y hy
  obtain⟨i,i1,i2,rfl⟩:=Qdb X (V++Y) hx
  obtain⟨j,j1,j2,j3,rfl⟩:=Qda (X++U) Y hy
  rw[←eV]
  rw[lXU] at j1 j2 j3
  have hq:=z4 s (Nat.le_refl _) (by omega)
  rw[show p-s=e-1 from by omega] at hq
  cases hc:leE (at_ (X++(U++(V++Y))) i) (at_ (X++(U++(V++Y))) j) with
  |false=>rfl
  |true=>rw[Qa5 _ _ _ (sU s i (by omega) (by omega) (by omega)) (Qa5 _ _ _ hc (sV j (e-1) (by omega) (by omega) (by omega)))] at hq;cases hq
 have eU:U.take (s-a)++U.drop (s-a)=U:=List.take_append_drop ..
 have eV2:V.take (e-m)++V.drop (e-m)=V:=List.take_append_drop ..
 have hmg:mg leE U V=mg leE (U.take (s-a)) (V.take (e-m))++mg leE (U.drop (s-a)) (V.drop (e-m)):=by
  have:=Qcg (le:=leE) (A2:=U.drop (s-a)) (B2:=V.drop (e-m)) (U.take (s-a)) (V.take (e-m)) c1 c2
  rw[eU,eV2] at this
  exact this
 have lP:(mg leE (U.take (s-a)) (V.take (e-m))).length=mid-a:=by rw[Qcb,lA1,lB1];omega
 have sA1:=srt_take hU (s-a)
 have sA2:=srt_drop hU (s-a)
 have sB1:=srt_take hV (e-m)
 have sB2:=srt_drop hV (e-m)
 have ed:X++(U++(V++Y))=(X++U.take (s-a))++(U.drop (s-a)++(V.take (e-m)++(V.drop (e-m)++Y))):=by
  conv=>lhs;rw[←eU,←eV2]
  simp only[List.append_assoc]
 rw[hmg] at HQ
 generalize U.take (s-a)=A1 at*
 generalize U.drop (s-a)=A2 at*
 generalize V.take (e-m)=B1 at*
 generalize V.drop (e-m)=B2 at*
 have hf:IntKind.i64.wrap (Int.fdiv (IntKind.u64.wrap ((a:Int)+b)) 2)=(mid:Int):=by rw[half (by omega),hmid]
 have he':(mid:Int)+(m:Int)-(s:Int)=(e:Int):=by omega
 have J4:zac_j4 b a m s Q (X++(mg leE A1 B1++(A2++(B2++Y)))):=by
  unfold zac_j4
  rw[hf,he']
  have e0:¬ (mid<e∧e<b)→X++(mg leE A1 B1++(A2++(B2++Y)))=X++(mg leE A1 B1++mg leE A2 B2++Y):=fun h=>by
   by_cases hz:A2=[]
   ·rw[hz];simp[mg]
   ·have:0<A2.length:=List.length_pos_iff.2 hz
    have:B2=[]:=List.length_eq_zero_iff.1 (by omega)
    rw[this];simp[mg_nil]
  refine Jn.i (Br.i (fun h1 => ?_) (fun h1 => ?_))
  ·unfold zac_j5
   rw[hf,he']
   refine Jn.i (Br.i (fun h2=>⟨X++(mg leE A1 B1++mg leE A2 B2++Y),?_,HQ⟩) (fun h2=>by rw[e0 (by omega)];exact HQ))
   have:=ih (X++mg leE A1 B1) A2 B2 Y (by omega) (by omega) (by omega) sA2 sB2 (by simp[Big];omega)
   rw[List.length_append,lP,show X.length+(mid-a)=mid from by omega,show mid+A2.length=e from by omega,show e+B2.length=b from by omega] at this
   simpa only[List.append_assoc] using this
  ·unfold zac_j5
   exact Jn.i (Br.f rfl (by rw[e0 (by omega)];exact HQ))
 have J2:zac_j2 a b s m Q (X++(A1++(B1++(A2++(B2++Y))))):=by
  unfold zac_j2
  rw[hf]
  have e0:¬ (a<s∧s<mid)→X++(A1++(B1++(A2++(B2++Y))))=X++(mg leE A1 B1++(A2++(B2++Y))):=fun h=>by
   by_cases hz:A1=[]
   ·rw[hz];simp[mg]
   ·have:0<A1.length:=List.length_pos_iff.2 hz
    have:B1=[]:=List.length_eq_zero_iff.1 (by omega)
    rw[this];simp[mg_nil]
  refine Jn.i (Br.i (fun h1 => ?_) (fun h1 => ?_))
  ·unfold zac_j3
   rw[hf]
   refine Jn.i (Br.i (fun h2=>⟨_,?_,J4⟩) (fun h2=>by rw[e0 (by omega)];exact J4))
   have:=ih X A1 B1 (A2++(B2++Y)) (by omega) (by omega) (by omega) sA1 sB1 (by simp[Big];omega)
   rw[show X.length=a from ha.symm,show a+A1.length=s from by omega,show s+B1.length=mid from by omega] at this
   exact this
  ·unfold zac_j3
   exact Jn.i (Br.f rfl (by rw[e0 (by omega)];exact J4))
 have ed':¬ (s<m∧m<e)→X++(U++(V++Y))=X++(A1++(B1++(A2++(B2++Y)))):=fun hr=>by
  rw[ed]
  by_cases hz:A2=[]
  ·rw[hz];simp
  ·have:0<A2.length:=List.length_pos_iff.2 hz
   have:B1=[]:=List.length_eq_zero_iff.1 (by omega)
   rw[this];simp
 unfold zac_j0
 rw[hf]
 refine Jn.i (Num.n (by omega) (z5 _ ?_))
 rw[he']
 refine Num.n (by omega) (Br.i (fun h1 => ?_) (fun h1 => ?_))
 ·unfold zac_j1
  rw[hf,he']
  refine Jn.i (Br.i (fun h2=>⟨_,?_,J2⟩) (fun h2=>by rw[ed' (by omega)];exact J2))
  have R:=rot_f (X++A1) A2 B1 (B2++Y) (a:=s) (m:=m) (b:=e) (by simp;omega) (by simp;omega) (by simp;omega) (by omega) (by omega) (by simp[Big];omega)
  rw[ed]
  simpa only[List.append_assoc] using R
 ·unfold zac_j1
  exact Jn.i (Br.f rfl (by rw[ed' (by omega)];exact J2))
end Go.Proofs.YtjlkmdmaimednaaGreat.Pure
namespace Go.Proofs.YtjlkmdmaimednaaGreat.Pure
open Go Go.Ab Go.Stable Go.Proofs.YtjlkmdmaimednaaGreat.R
theorem sm_f:∀(N:Nat)(X U V Y:List E),U.length+V.length≤N→0<U.length→0<V.length→Srt U→Srt V→Big (X.length+U.length+V.length+Y.length)→
  zac_r (X++(U++(V++Y))) (X.length:Nat) ((X.length+U.length:Nat):Int) ((X.length+U.length+V.length:Nat):Int) (X++(mg leE U V++Y)):=by
 intro N
 induction N with
 |zero=>intro X U V Y hN hU0 hV0 hU hV hB;omega
 |succ N ih=>
  intro X U V Y hN hU0 hV0 hU hV hB
  have hB':X.length+U.length+V.length+Y.length≤1152921504606846976:=hB
  have hlen:(X++(U++(V++Y))).length=X.length+U.length+V.length+Y.length:=by simp;omega
  obtain⟨a,ha⟩:∃a,a=X.length:=⟨_,rfl⟩
  obtain⟨m,hm⟩:∃m,m=X.length+U.length:=⟨_,rfl⟩
  obtain⟨b,hb⟩:∃b,b=X.length+U.length+V.length:=⟨_,rfl⟩
  rw[←hb,←hm,←ha]
  refine zac_of ?_
  unfold zac_w
  refine Num.n (by omega) ?_
  by_cases c1:m-a=1
  ·
   obtain⟨u,rfl⟩:∃u,U=[u]:=List.length_eq_one_iff.1 (by omega)
   have eL:X++([u]++(V++Y))=X++u::(V++Y):=by simp
   have eV:X++([u]++(V++Y))=(X++[u])++(V++Y):=by simp
   have hau:at_ (X++([u]++(V++Y))) a=u:=by rw[eL];exact at_of (Qdd _ _ _ ha)
   have sV:∀x y,m≤x→x≤y→y<b→leE (at_ (X++([u]++(V++Y))) x) (at_ (X++([u]++(V++Y))) y)=true:=fun x y h1 h2 h3=>by rw[eV];exact srt_at (X++[u]) Y hV (by simp at hm ⊢;omega) h2 (by simp at hm hb ⊢;omega)
   obtain⟨r,r1,r2,r3,r4,r5⟩:=sm_find0 (X++([u]++(V++Y))) a m b (by rw[hlen];exact hB) (by rw[hlen];simp;omega) (by rw[hlen];omega)
    (fun x y h1 h2 h3 hq=>Qa5 _ _ _ hq (sV x y h1 h2 h3)) (b-m) m b (Nat.le_refl _) (Nat.le_refl _) (by omega) (Nat.le_refl _) (fun h h1 h2=>by omega) (fun h h1 h2=>by omega)
   refine Br.pos (by omega) (r5 _ ?_)
   ·have lT:(V.take (r-m)).length=r-m:=Qbj (by omega)
    have eT:V.take (r-m)++V.drop (r-m)=V:=List.take_append_drop ..
    have h1:∀x∈([u]:List E),∀y∈V.take (r-m),leE x y=false:=by
     intro x hx y hy
     rw[List.mem_singleton.1 hx]
     obtain⟨j,j1,j2,j3,rfl⟩:=Qda (X++[u]) Y hy
     have e:(X++[u]).length=m:=by simp at hm ⊢;omega
     rw[e] at j1 j2
     have:=r3 j (by omega) (by omega)
     rw[hau] at this
     rw[←eV];exact this
    have h2:∀y∈V.drop (r-m),leE u y=true:=by
     intro y hy
     obtain⟨j,j1,j2,rfl⟩:=Qdb (X++[u]) Y hy
     have e:(X++[u]).length=m:=by simp at hm ⊢;omega
     rw[e] at j1 j2
     have:=r4 j (by omega) (by omega)
     rw[hau] at this
     rw[←eV];exact this
    have hmg:mg leE [u] V=V.take (r-m)++u::V.drop (r-m):=by
     have:=Qcg (le:=leE) (A2:=[u]) (B2:=V.drop (r-m)) [] (V.take (r-m)) (fun _ h=>by cases h) h1
     rw[eT,List.nil_append] at this
     rw[this]
     congr 1
     ·simp[mg]
     ·cases hd:V.drop (r-m) with
      |nil=>simp[mg]
      |cons v W=>rw[mg,if_pos (h2 v (by rw[hd];exact List.mem_cons_self ..))];simp[mg]
    have:=sm_l1 (fun y2=>zac_e (fun v_=>v_=X++(mg leE [u] V++Y)) y2) r (V.take (r-m)) X (V.drop (r-m)++Y) u a (by omega) (by rw[lT];simp at hm;omega) (by rw[lT];simp[Big];simp at hB';omega) (Rt.i (by rw[hmg];simp))
    rw[eL]
    rw[show V.take (r-m)++(V.drop (r-m)++Y)=V++Y by rw[←List.append_assoc,eT]] at this
    exact this
  ·by_cases c2:b-m=1
   ·
    obtain⟨v,rfl⟩:∃v,V=[v]:=List.length_eq_one_iff.1 (by omega)
    have eL:X++(U++([v]++Y))=(X++U)++v::Y:=by simp
    have hmv:at_ (X++(U++([v]++Y))) m=v:=by rw[eL];exact at_of (Qdd _ _ _ (by simp;omega))
    have sU:∀x y,a≤x→x≤y→y<m→leE (at_ (X++(U++([v]++Y))) x) (at_ (X++(U++([v]++Y))) y)=true:=fun x y h1 h2 h3=>srt_at X ([v]++Y) hU (by omega) h2 (by omega)
    obtain⟨r,r1,r2,r3,r4,r5⟩:=sm_find2 (X++(U++([v]++Y))) a m (by rw[hlen];exact hB) (by rw[hlen];simp;omega)
     (fun x y h1 h2 h3 hq=>Qa5 _ _ _ (sU x y h1 h2 h3) hq) (m-a) a m (Nat.le_refl _) (Nat.le_refl _) (by omega) (Nat.le_refl _) (fun h h1 h2=>by omega) (fun h h1 h2=>by omega)
    refine Br.neg (by omega) (Num.n (by omega) (Br.pos (by omega) (r5 _ ?_)))
    ·have lT:(U.take (r-a)).length=r-a:=Qbj (by omega)
     have lD:(U.drop (r-a)).length=m-r:=by rw[List.length_drop];omega
     have eT:U.take (r-a)++U.drop (r-a)=U:=List.take_append_drop ..
     have h1:∀x∈U.drop (r-a),∀y∈([v]:List E),leE x y=false:=by
      intro x hx y hy
      rw[List.mem_singleton.1 hy]
      obtain⟨j,j1,j2,rfl⟩:=Qdb X ([v]++Y) hx
      have:=r4 j (by omega) (by omega)
      rw[hmv] at this
      exact this
     have h2:∀x∈U.take (r-a),leE x v=true:=by
      intro x hx
      obtain⟨j,j1,j2,j3,rfl⟩:=Qda X ([v]++Y) hx
      have:=r3 j (by omega) (by omega)
      rw[hmv] at this
      exact this
     have hmg:mg leE U [v]=U.take (r-a)++v::U.drop (r-a):=by
      have:=Qcg (le:=leE) (A2:=U.drop (r-a)) (B2:=[]) (U.take (r-a)) [v] (fun _ _ _ h=>by cases h) h1
      rw[eT,List.append_nil,mg_nil,show mg leE (U.take (r-a)) [v]=U.take (r-a)++[v] from insS_le h2] at this
      rw[this];simp
     have:=sm_l3 (fun y2=>zac_e (fun v_=>v_=X++(mg leE U [v]++Y)) y2) r (U.drop (r-a)).length (U.drop (r-a)) (X++U.take (r-a)) Y v m rfl (by simp;omega) (by rw[lD];simp;omega) (by rw[lD];simp[Big];simp at hB';omega) (Rt.i (by rw[hmg];simp))
     have e1:X++(U++([v]++Y))=(X++U.take (r-a))++(U.drop (r-a)++v::Y):=by
      rw[List.append_assoc X,←List.append_assoc (U.take (r-a)),eT]
      rfl
     rw[e1]
     simpa using this
   ·
    have hf:IntKind.i64.wrap (Int.fdiv (IntKind.u64.wrap ((a:Int)+b)) 2)=(((a+b)/2:Nat):Int):=half (by omega)
    refine Br.neg (by omega) (Num.n (by omega) (Br.neg (by omega) (Num.n (by omega) ?_)))
    rw[hf]
    refine Num.n (by omega) (Br.i (fun c3=>Num.n (by omega) ?_) (fun c3 => ?_))
    ·have:=sm_gen N ih X U V Y hN (by omega) (by omega) hU hV hB (a:=a) (m:=m) (b:=b) (mid:=(a+b)/2) (n:=(a+b)/2+m) (p:=(a+b)/2+m-1) (s0:=(a+b)/2+m-b) (r0:=(a+b)/2) ha hm hb rfl rfl rfl (.inl ⟨by omega,rfl,rfl⟩) (fun v_=>v_=X++(mg leE U V++Y)) (Rt.i rfl)
     rw[show(((a+b)/2:Nat):Int)+(m:Int)-(b:Int)=(((a+b)/2+m-b:Nat):Int) by omega]
     exact this
    ·exact sm_gen N ih X U V Y hN (by omega) (by omega) hU hV hB (a:=a) (m:=m) (b:=b) (mid:=(a+b)/2) (n:=(a+b)/2+m) (p:=(a+b)/2+m-1) (s0:=a) (r0:=m) ha hm hb rfl rfl rfl (.inr ⟨by omega,rfl,rfl⟩) (fun v_=>v_=X++(mg leE U V++Y)) (Rt.i rfl)
theorem Qez (L:List E):Srt (isort leE L):=(Qgm Qa5 leE_total L).1
theorem Qal (L:List E):(isort leE L).length=L.length:=by
 have:∀(L R:List E),(L.foldl (insS leE) R).length=R.length+L.length:=by
  intro L
  induction L with
  |nil=>intro R;simp
  |cons x L ih=>intro R;rw[List.foldl_cons,ih];simp[insS,Qcb];omega
 rw[isort,this];simp
def blocks (s:Nat):Nat→List E→List E
 |0,_=>[]
 |f+1,L=>if L=[] then [] else isort leE (L.take s)++blocks s f (L.drop s)
theorem blocks_fuel {s:Nat}(hs:0<s):∀(f g:Nat)(L:List E),L.length≤f→L.length≤g→blocks s f L=blocks s g L
 |0,0,L,h,h'=>rfl
 |0,g+1,L,h,h'=>by
  obtain rfl:=List.length_eq_zero_iff.1 (Nat.le_zero.1 h)
  simp[blocks]
 |f+1,0,L,h,h'=>by
  obtain rfl:=List.length_eq_zero_iff.1 (Nat.le_zero.1 h')
  simp[blocks]
 |f+1,g+1,L,h,h'=>by
  simp only[blocks]
  by_cases e:L=[]
  ·rw[if_pos e,if_pos e]
  ·rw[if_neg e,if_neg e]
   have:0<L.length:=List.length_pos_iff.2 e
   rw[blocks_fuel hs f g (L.drop s) (by rw[List.length_drop];omega) (by rw[List.length_drop];omega)]
abbrev blk (s:Nat) (L:List E):List E:=blocks s L.length L
theorem Qc8 {s:Nat}(hs:0<s) (L:List E):blk s L=isort leE (L.take s)++blk s (L.drop s):=by
 cases h:L with
 |nil=>simp[blk,blocks,isort]
 |cons x M=>
  have:blk s (x::M)=blocks s (M.length+1) (x::M):=rfl
  rw[this,blocks,if_neg (by simp)]
  congr 1
  exact blocks_fuel hs _ _ _ (by rw[List.length_drop];simp;omega) (Nat.le_refl _)
theorem Qbx {s:Nat}(hs:0<s){L:List E}(h:L.length≤s):blk s L=isort leE L:=by
 rw[Qc8 hs,List.take_of_length_le h,List.drop_of_length_le h]
 simp[blk,blocks]
theorem isort_join (U V:List E):mg leE (isort leE U) (isort leE V)=isort leE (U++V):=isort_mg leE_refl Qa5 leE_total U V
theorem blk_len {s:Nat}(hs:0<s):∀(n:Nat)(L:List E),L.length≤n→(blk s L).length=L.length
 |0,L,h=>by obtain rfl:=List.length_eq_zero_iff.1 (Nat.le_zero.1 h);rfl
 |n+1,L,h=>by
  by_cases e:L=[]
  ·rw[e];rfl
  ·have:0<L.length:=List.length_pos_iff.2 e
   rw[Qc8 hs,List.length_append,Qal,blk_len hs n _ (by rw[List.length_drop];omega),List.length_take,List.length_drop]
   omega
theorem st_l0 (Q:Int×List E→Prop) (n:Nat) (L:List E) (HQ:∀(D R:List E),n=D.length+R.length→R.length<20→D++isort leE R=blk 20 L→Q ((D.length:Nat),D++R)):
  ∀(q:Nat)(D R:List E)(a b:Int),R.length≤q→n=D.length+R.length→Big n→a=(D.length:Nat)→b=((D.length+20:Nat):Int)→D++blk 20 R=blk 20 L→zae_L0 n Q a b (D++R):=by
 intro q
 induction q with
 |zero=>
  intro D R a b hq hn hB ha hb hL
  have hB':n≤1152921504606846976:=hB
  subst ha
  refine zae_l0 (Br.neg (by omega) (Lf.i (HQ _ _ hn (by omega) ?_)))
  rw[←hL,Qbx (by omega) (by omega)]
 |succ q ih=>
  intro D R a b hq hn hB ha hb hL
  have hB':n≤1152921504606846976:=hB
  by_cases c:D.length+20≤n
  ·have lT:(R.take 20).length=20:=Qbj (by omega)
   have I:=ins_f D (R.take 20) (R.drop 20) (a:=a) (b:=b) ha (by rw[lT];exact hb) (by rw[lT];simp[Big];omega)
   rw[List.take_append_drop] at I
   refine zae_l0 (Br.pos (by omega) ⟨_,I,Num.n (by omega) ?_⟩)
   have:=ih (D++isort leE (R.take 20)) (R.drop 20) b (b+20) (by rw[List.length_drop];omega) (by rw[List.length_append,Qal,lT,List.length_drop];omega) hB (by rw[List.length_append,Qal,lT];exact hb) (by rw[List.length_append,Qal,lT];omega) (by
    rw[List.append_assoc,←Qc8 (by omega)];exact hL)
   rw[List.append_assoc] at this
   exact this
  ·subst ha
   refine zae_l0 (Br.neg (by omega) (Lf.i (HQ _ _ hn (by omega) ?_)))
   rw[←hL,Qbx (by omega) (by omega)]
theorem st_l2 (Q:Int×List E→Prop) (n s:Nat) (L:List E) (hs:0<s) (HQ:∀(D R:List E),n=D.length+R.length→R.length<2*s→D++isort leE R=blk (2*s) L→Q ((D.length:Nat),D++blk s R)):
  ∀(q:Nat)(D R:List E)(a b:Int),R.length≤q→n=D.length+R.length→Big n→s<n→a=(D.length:Nat)→b=((D.length+2*s:Nat):Int)→D++blk (2*s) R=blk (2*s) L→zae_L2 n s Q a b (D++blk s R):=by
 intro q
 induction q with
 |zero=>
  intro D R a b hq hn hB hsn ha hb hL
  have hB':n≤1152921504606846976:=hB
  subst ha
  refine zae_l2 (Br.neg (by omega) (Lf.i (HQ _ _ hn (by omega) ?_)))
  rw[←hL,Qbx (by omega) (by omega)]
 |succ q ih=>
  intro D R a b hq hn hB hsn ha hb hL
  have hB':n≤1152921504606846976:=hB
  by_cases c:D.length+2*s≤n
  ·have l1:(R.take s).length=s:=Qbj (by omega)
   have l2:((R.drop s).take s).length=s:=Qbj (by rw[List.length_drop];omega)
   have e1:blk s R=isort leE (R.take s)++(isort leE ((R.drop s).take s)++blk s ((R.drop s).drop s)):=by rw[Qc8 hs,Qc8 hs (R.drop s)]
   have e2:R.take s++(R.drop s).take s=R.take (2*s):=by rw[show 2*s=s+s by omega,List.take_add]
   have e3:(R.drop s).drop s=R.drop (2*s):=by rw[List.drop_drop,show s+s=2*s by omega]
   have M:=sm_f _ D (isort leE (R.take s)) (isort leE ((R.drop s).take s)) (blk s (R.drop (2*s))) (Nat.le_refl _) (by rw[Qal];omega) (by rw[Qal];omega) (Qez _) (Qez _) (by
    rw[Qal,Qal,blk_len hs _ _ (Nat.le_refl _),List.length_drop];simp only[Big];omega)
   rw[isort_join,e2,Qal,Qal,l1,l2,←e3,←e1,e3,←ha,show((D.length+s:Nat):Int)=a+s by omega,show((D.length+s+s:Nat):Int)=b by omega] at M
   refine zae_l2 (Br.pos (by omega) (Num.n (by omega) ⟨_,M,Num.n (by omega) (Num.n (by omega) ?_)⟩))
   have:=ih (D++isort leE (R.take (2*s))) (R.drop (2*s)) b (b+2*s) (by rw[List.length_drop];omega) (by rw[List.length_append,Qal,Qbj (by omega),List.length_drop];omega) hB hsn (by rw[List.length_append,Qal,Qbj (by omega)];exact hb) (by rw[List.length_append,Qal,Qbj (by omega)];omega) (by
    rw[List.append_assoc,←Qc8 (by omega)];exact hL)
   rw[List.append_assoc] at this
   exact this
  ·subst ha
   refine zae_l2 (Br.neg (by omega) (Lf.i (HQ _ _ hn (by omega) ?_)))
   rw[←hL,Qbx (by omega) (by omega)]
theorem st_l1 (Q:List E→Prop) (L:List E) (HQ:Q (isort leE L)):∀(q s:Nat)(b:Int),L.length-s≤q→Big L.length→0<s→b=s→Qf3 (L.length:Nat) Q b (blk s L):=by
 intro q
 induction q with
 |zero=>
  intro s b hq hB hs hb
  rw[Qbx hs (by omega)]
  exact zae_l1 (Br.neg (by omega) (Lf.i HQ))
 |succ q ih=>
  intro s b hq hB hs hb
  have hB':L.length≤1152921504606846976:=hB
  subst hb
  by_cases c:s<L.length
  ·refine zae_l1 (Br.pos (by omega) (Num.n (by omega) ?_))
   have:=st_l2 (fun(yb1:Int×List E)=>Num .i64 (yb1.1+s) (Br (decide ((yb1.1+s)<(L.length:Int))) (∃rb2:List E,(zac_r yb1.2 yb1.1 (yb1.1+s) (L.length:Nat) rb2)∧(Num .i64 ((s:Int)*2) (Qf3 (L.length:Nat) Q ((s:Int)*2) rb2))) (Num .i64 ((s:Int)*2) (Qf3 (L.length:Nat) Q ((s:Int)*2) yb1.2)))) L.length s L hs (fun D R hn hR hL=>by
    dsimp only
    have NX:Qf3 (L.length:Nat) Q ((s:Int)*2) (D++isort leE R):=by
     rw[hL];exact ih (2*s) _ (by omega) hB (by omega) (by omega)
    refine Num.n (by omega) (Br.i (fun c2 => ?_) (fun c2 => ?_))
    ·have l1:(R.take s).length=s:=Qbj (by omega)
     have l2:(R.drop s).length=L.length-D.length-s:=by rw[List.length_drop];omega
     have e1:blk s R=isort leE (R.take s)++isort leE (R.drop s):=by rw[Qc8 hs,Qbx hs (L:=R.drop s) (by rw[List.length_drop];omega)]
     have M:=sm_f _ D (isort leE (R.take s)) (isort leE (R.drop s)) [] (Nat.le_refl _) (by rw[Qal];omega) (by rw[Qal];omega) (Qez _) (Qez _) (by
      rw[Qal,Qal,l1,l2];simp only[Big,List.length_nil];omega)
     rw[isort_join,List.take_append_drop,List.append_nil,List.append_nil,←e1,Qal,Qal,l1,l2,show D.length+s+(L.length-D.length-s)=L.length by omega] at M
     exact⟨_,by simpa using M,Num.n (by omega) NX⟩
    ·rw[Qbx hs (by omega)]
     exact Num.n (by omega) NX) L.length [] L 0 (2*s) (Nat.le_refl _) (by simp) hB c (by simp) (by simp) (by simp)
   simpa using this
  ·rw[Qbx hs (by omega)]
   exact zae_l1 (Br.neg (by omega) (Lf.i HQ))
theorem sort_r (L:List E) (hB:Big L.length):zbp_r L (isort leE L):=by
 have hB':L.length≤1152921504606846976:=hB
 refine zbp_of ?_
 unfold zbp_w
 have el:lenM zaa.enc L=(L.length:Nat):=by simp[lenM]
 rw[el]
 refine⟨isort leE L,zae_of ?_,Rt.i rfl⟩
 unfold zae_w
 have:=st_l0 (fun(y1:Int×List E)=>∃r2:List E,(zah_r y1.2 y1.1 (L.length:Nat) r2)∧(Qf3 (L.length:Nat) (fun(y3:List E)=>zae_e (fun v_=>v_=isort leE L) y3) 20 r2)) L.length L (fun D R hn hR hL=>by
  have I:=ins_f D R [] (a:=(D.length:Nat)) (b:=(L.length:Nat)) rfl (by omega) (by simp[Big];omega)
  rw[List.append_nil,List.append_nil] at I
  refine⟨_,I,?_⟩
  rw[hL]
  exact st_l1 _ L (Rt.i rfl) L.length 20 20 (by omega) hB (by omega) rfl) L.length [] L 0 20 (Nat.le_refl _) (by simp) hB (by simp) (by simp) (by simp)
 simpa using this
end Go.Proofs.YtjlkmdmaimednaaGreat.Pure
namespace Go.Proofs
open Go.Shelf
def Tryz.clone105_ren:Go.Shelf.Ren:=⟨fun|41=>105|n=>n,fun|22=>76|23=>122|4=>4|n=>n,fun|n=>n⟩
theorem Tryz.clone105:Go.Proofs.SlLaysE0.n41 Tryz.prog Tryz.clone105_ren:={
 mixed:=by kernel_rfl
 f41:=⟨Tryz.f105.name,by decide,Tryz.func105.trans (congrArg some (by kernel_rfl))⟩
 t4:=Tryz.underlying4
 a4:=Tryz.isAgg4
 z4:=Tryz.sizeOf4
 v4:=Tryz.zeroValue4
 t22:=Tryz.underlying76
 a22:=Tryz.isAgg76
 z22:=Tryz.sizeOf76
 v22:=Tryz.zeroValue76 }
end Go.Proofs
namespace Go.Proofs.YtjlkmdmaimednaaGreat.Pure
open Go Go.Ab Go.Proofs Go.Proofs.YtjlkmdmaimednaaGreat.R
theorem Clone105_r {l:List zaa}(h:l.length≤1000000000):CloneR Tryz.prog 105 9 zaa.enc l l:=by
 have hi0:(Tryz.prog.info? 122).map (fun i=>(i.zero.map (·.cells.size),i.size,i.bytes))=some (some 9,9,96):=by kernel_rfl
 obtain⟨i0,hi⟩:∃i0,Tryz.prog.info? 122=some i0:=Option.isSome_iff_exists.1 (by kernel_rfl)
 rw[hi] at hi0
 simp only[Option.map_some,Option.some.injEq,Prod.mk.injEq,Option.map_eq_some_iff] at hi0
 obtain⟨⟨z,hz,hzs⟩,h1,h2⟩:=hi0
 exact Con_clone Tryz.clone105 i0 z 9 96 hi hz h1 h2 hzs (by decide) Tryz.sizeOf122 (enters_of Tryz.func105 (by kernel_rfl) rfl) (by rw[List.length_map];simp only[maxLen];omega) (by rw[List.length_map];omega)
end Go.Proofs.YtjlkmdmaimednaaGreat.Pure
namespace Go.Proofs.YtjlkmdmaimednaaGreat.Pure
open Go Go.Ab Go.Stable Go.Proofs.YtjlkmdmaimednaaGreat.R
theorem Rank_r {l:List zaa}(h:l.length≤1000000000):zgk_r l (isort leE l):=by
 refine zgk_of ?_
 unfold zgk_w
 exact⟨_,Clone105_r h,_,sort_r l (by simp only[Big];omega),Rt.i rfl⟩
end Go.Proofs.YtjlkmdmaimednaaGreat.Pure
namespace Go.Proofs.YtjlkmdmaimednaaGreat.Pure
open Go Go.Ab Go.Stable Go.Proofs.YtjlkmdmaimednaaGreat.R
abbrev RI:=zag
abbrev HI:=zaa
def toR (x:HI):RI:=⟨x.Lot,x.Asset,x.Price,x.Cut⟩
def toH (x:RI):HI:=⟨x.Lot,x.Asset,x.Price,x.Cut⟩
theorem Qcc (l:List HI):(l.map toR).map toH=l:=by rw[List.map_map];exact List.map_id' l
theorem toR_toH (l:List RI):(l.map toH).map toR=l:=by rw[List.map_map];exact List.map_id' l
theorem app96 {n:Nat}(h:n≤3000000):App 96 n:=⟨by unfold maxLen;omega,by omega⟩
end Go.Proofs.YtjlkmdmaimednaaGreat.Pure
