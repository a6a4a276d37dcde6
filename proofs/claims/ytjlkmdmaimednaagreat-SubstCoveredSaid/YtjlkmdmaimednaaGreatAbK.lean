import Derived.Test.YtjlkmdmaimednaaGreatAbO
import Derived.Test.YtjlkmdmaimednaaGreatAbU
set_option linter.unusedVariables false
set_option linter.unusedSimpArgs false
namespace Go.Ab
variable {P:Program} {B:Base} {s:St} {a:Act} {w:World} {ρ:Nat→Value} {n:Nat}
def mkSt (sl:List (Nat×A))(os:List (Nat×O))(base:List Nat):St:=⟨fun i=>(sl.lookup i).getD .dead,ofO os,base⟩
def norm (ks ids:List Nat)(s:St):St:=mkSt (ks.map fun i=>(i,s.slots i)) (pickOs s.objs ids) s.base
theorem lookup_map {α:Type}(f:Nat→α):∀(ks:List Nat)(i:Nat),(ks.map fun i=>(i,f i)).lookup i=if i∈ks then some (f i) else none
 |[],i=>by simp
 |k::ks,i=>by
  rw[List.map_cons,List.lookup_cons]
  by_cases h:i=k
  ·subst h;simp
  ·have:(i==k)=false:=by simpa using h
   rw[this,lookup_map f ks i];simp[h]
theorem norm_slots (ks ids:List Nat) (s:St) (i:Nat):(norm ks ids s).slots i=s.slots i∨(norm ks ids s).slots i = .dead:=by
 simp only[norm,mkSt,lookup_map]
 split
 ·exact .inl rfl
 ·exact .inr rfl
theorem norm_objs (ks ids:List Nat) (s:St) (i:Nat):(norm ks ids s).objs i=s.objs i∨(norm ks ids s).objs i=none:=by
 simp only[norm,mkSt,ofO,Qar]
 split
 ·exact .inl rfl
 ·exact .inr rfl
theorem Rel.norm (h:Rel B s a w ρ) (ks ids:List Nat):Rel B (Ab.norm ks ids s) a w ρ:=h.weak rfl (norm_slots ks ids s) (norm_objs ks ids s)
def St.ownNil (s:St)(d j m:Nat):St:=
 match s.slots d with
 |.t (.v (.slice none 0 0))=>if idOk s j then(s.mv none j (.row m [])).put d (.ref j) else s
 |_=>s
theorem Act.put_self (a:Act) (d:Nat) (hd:d<a.tmps.size):a.put (some d) (a.tmps.getD d undef)=a:=by
 unfold Act.put
 have:a.tmps.setIfInBounds d (a.tmps.getD d undef)=a.tmps:=by
  apply Array.ext
  ·simp
  ·intro i h1 h2
   rw[Array.getElem_setIfInBounds]
   split
   ·rename_i h3;subst h3;simp[Array.getD]
   ·rfl
 simp only[this]
theorem Rel.ownNil (h:Rel B s a w ρ) (d j m:Nat):∃σ,Rel B (s.ownNil d j m) a w σ:=by
 unfold St.ownNil
 split
 ·rename_i hs
  split
  ·rename_i hid
   have hd:=h.slots d
   rw[hs] at hd
   simp only[relA,rep] at hd
   have hlt:d<a.tmps.size:=by
    apply Classical.byContradiction
    intro hge
    rw[Array.getD_eq_getD_getElem?,Array.getElem?_eq_none (by omega)] at hd
    simp[undef] at hd
   have h1:=h.mv (w':=w) none j (.row m []) (.slice none 0 0) (Qan hid) rfl rfl rfl (Nat.le_refl _) (fun _ _ _=>rfl) (fun b hb=>by simp[blockOf] at hb) (fun C' _ => .inl ⟨rfl,Qgi⟩)
   have h2:=h1.put (d:=d) (x := .ref j) (u := .slice none 0 0) (by rw[←h.n];exact hlt) (by simp only[relA,if_true])
   rw[←hd,Act.put_self a d hlt] at h2
   exact⟨_,h2⟩
  ·exact⟨ρ,h⟩
 ·exact⟨ρ,h⟩
mutual
def A.ren (i j:Nat):A→A
 |.dead => .dead
 |.t x => .t x
 |.agg xs => .agg (A.renL i j xs)
 |.ref k=>if k==i then .ref j else if k==j then .dead else .ref k
 |.at k o=>if k==i then .at j o else if k==j then .dead else .at k o
 |.elt k e m o=>if k==i then .elt j e m o else if k==j then .dead else .elt k e m o
 |.tup xs => .tup (A.renL i j xs)
 |.fn f xs => .fn f (A.renL i j xs)
def A.renL (i j:Nat):List A→List A
 |[]=>[]
 |x::xs=>A.ren i j x::A.renL i j xs
end
mutual
theorem relA_ren {σ:Nat→Value}{C:View}{i j:Nat}(hj:σ j=ρ i) (h:∀k,k≠j→σ k=ρ k):∀(x:A)(u:Value),relA ρ C x u→relA σ C (x.ren i j) u
 |.dead,_,_=>by simp only[A.ren,relA]
 |.t x,u,hr=>by simpa only[A.ren,relA] using hr
 |.agg xs,u,hr=>by simp only[A.ren,relA] at hr ⊢;obtain⟨cs,h1,h2⟩:=hr;exact⟨cs,h1,Qde hj h xs _ h2⟩
 |.ref k,u,hr=>by
  simp only[A.ren]
  by_cases hk:k=i
  ·subst hk;simp only[relA] at hr;simp[relA,hj,hr]
  ·by_cases hkj:k=j
   ·subst hkj;simp[hk,relA]
   ·simp only[relA] at hr;simp[hk,hkj,relA,h k hkj,hr]
 |.at k o,u,hr=>by
  simp only[A.ren]
  by_cases hk:k=i
  ·subst hk;simp only[relA] at hr;simpa[relA,hj] using hr
  ·by_cases hkj:k=j
   ·subst hkj;simp[hk,relA]
   ·simp only[relA] at hr;simpa[hk,hkj,relA,h k hkj] using hr
 |.elt k e m o,u,hr=>by
  simp only[A.ren]
  by_cases hk:k=i
  ·subst hk;simp only[relA] at hr;simpa[relA,hj] using hr
  ·by_cases hkj:k=j
   ·subst hkj;simp[hk,relA]
   ·simp only[relA] at hr;simpa[hk,hkj,relA,h k hkj] using hr
 |.tup xs,u,hr=>by simp only[A.ren,relA] at hr ⊢;obtain⟨cs,h1,h2⟩:=hr;exact⟨cs,h1,Qde hj h xs _ h2⟩
 |.fn f xs,u,hr=>by simp only[A.ren,relA] at hr ⊢;obtain⟨cs,h1,h2⟩:=hr;exact⟨cs,h1,Qde hj h xs _ h2⟩
theorem Qde {σ:Nat→Value}{C:View}{i j:Nat}(hj:σ j=ρ i) (h:∀k,k≠j→σ k=ρ k):∀(xs:List A)(us:List Value),relAs ρ C xs us→relAs σ C (A.renL i j xs) us
 |[],us,hr=>by simpa only[A.renL,relAs] using hr
 |x::xs,us,hr=>by
  simp only[A.renL,relAs] at hr ⊢
  obtain⟨u,us',h1,h2,h3⟩:=hr
  exact⟨u,us',h1,relA_ren hj h x u h2,Qde hj h xs us' h3⟩
end
def O.ren (i j:Nat):O→O
 |.box xs => .box (A.renL i j xs)
 |.iter k since seen last=>if k=i then .iter j since seen last else if k=j then .junk else .iter k since seen last
 |o=>o
theorem Qf9 {σ:Nat→Value}{C:View}{i j:Nat}(hj:σ j=ρ i) (h:∀k,k≠j→σ k=ρ k){u:Value}:∀(o:O),relO ρ C w u o→relO σ C w u (o.ren i j)
 |.box xs,hr=>by
  obtain⟨b,cur,e,h1,h2,h3⟩:=hr
  exact⟨b,cur,e,h1,h2,Qde hj h xs _ h3⟩
 |.row m rows,hr=>hr
 |.map _ _ _,hr=>hr
 |.iter k since seen last,hr=>by
  obtain⟨b,r,h1,h2,h3⟩:=hr
  simp only[O.ren]
  split
  ·rename_i hk;exact⟨b,r,h1,h2,by rw[hj,←hk];exact h3⟩
  ·split
   ·exact⟨b,_,h1,h2⟩
   ·rename_i _ hk;exact⟨b,r,h1,h2,by rw[h k hk];exact h3⟩
 |.junk,hr=>hr
def St.ren (s:St)(i j:Nat):St:=
 match s.objs i with
 |some o=>if idOk s j&&i != j then { s with slots:=fun t=>(s.slots t).ren i j,objs:=fun k=>if k==j then some (o.ren i j) else if k==i then none else(s.objs k).map (O.ren i j) } else s
 |none=>s
theorem Rel.ren (h:Rel B s a w ρ) (i j:Nat):∃σ,Rel B (s.ren i j) a w σ:=by
 unfold St.ren
 split
 ·rename_i o ho
  split
  ·rename_i hc
   simp only[Bool.and_eq_true,bne_iff_ne,ne_eq] at hc
   obtain⟨hid,hij⟩:=hc
   have hσj:(fun k=>if k=j then ρ i else ρ k) j=ρ i:=by simp
   have hσ:∀k,k≠j→(fun k=>if k=j then ρ i else ρ k) k=ρ k:=fun k hk=>by simp[hk]
   refine⟨fun k=>if k=j then ρ i else ρ k,h.change (some i) j (o.ren i j) rfl hσ (fun hj=>absurd hj (Qan hid)) (fun t u C hr=>relA_ren hσj hσ _ _ hr) (fun k hk o1 ho1 => ?_) (by simp)
    rfl rfl rfl (Nat.le_refl _) (fun _ _ _=>rfl) (fun b hb => .inr ⟨i,rfl,by simp[ho],by simpa using hb⟩) (fun C' hC => ?_)⟩
   ·have e:(k==j)=false:=by simpa using hk
    simp only[e,Bool.false_eq_true,if_false] at ho1
    split at ho1
    ·cases ho1
    ·rename_i hki
     simp only[Option.map_eq_some_iff] at ho1
     obtain⟨o0,h1,rfl⟩:=ho1
     refine⟨fun hh => ?_,o0,h1,fun C w u hr=>Qf9 hσj hσ o0 hr⟩
     cases hh;simp at hki
   ·rw[if_pos rfl]
    exact Qf9 hσj hσ o (Qbe (w:=w) hC (fun _ _=>rfl) o (h.heap.obj i o ho))
  ·exact⟨ρ,h⟩
 ·exact⟨ρ,h⟩
inductive Prep where
 |ren (i j:Nat)
 |nil (d m:Nat)
 |frz (j:Nat)
 |own (d j m:Nat)
 |keep (ks ids:List Nat)
 |ownC (j ci k m:Nat)
 |nilC (j ci m:Nat)
def St.nilT (s:St)(d m:Nat):St:=match s.slots d with | .t (.v (.slice none 0 0))=>s.put d (.t (.sl m []))|_=>s
theorem Rel.nilT (h:Rel B s a w ρ) (d m:Nat):Rel B (s.nilT d m) a w ρ:=by
 unfold St.nilT
 split
 ·rename_i hs
  have hd:=h.slots d
  rw[hs] at hd
  simp only[relA,rep] at hd
  refine⟨h.heap,h.frm,fun i => ?_,h.keep,h.n,h.defers,h.base⟩
  simp only[St.put]
  by_cases hi:i=d
  ·subst hi;simp only[beq_self_eq_true,if_true,relA,rep];exact .inl ⟨trivial,.inl hd⟩
  ·have:(i==d)=false:=by simpa using hi
   rw[this];exact h.slots i
 ·exact h
def St.ownC (s:St)(j ci k m:Nat):St:=match s.objs j with
 |some (.box xs)=>match xs[ci]? with
  |some (.t (.v (.slice none 0 0)))=>if idOk s k&&k != j then(s.mv none k (.row m [])).set j (.box ((A.killL [k] xs).set ci (.ref k))) else s
  |_=>s
 |_=>s
theorem relAs_set {C:View}{xs:List A}{us:List Value}{i:Nat}{x:A}{u:Value}(h:relAs ρ C xs us) (hu:us[i]? = some u) (hx:relA ρ C x u):relAs ρ C (xs.set i x) us:=by
 refine Qdr (by simp[Qaj h]) fun j y v hy hv => ?_
 by_cases hij:i=j
 ·subst hij
  rw[hu] at hv;cases hv
  rw[List.getElem?_set_self (by
   have:=(List.getElem?_eq_some_iff.1 hu).1
   rw[Qaj h] at this;exact this)] at hy
  cases hy;exact hx
 ·rw[List.getElem?_set_ne hij] at hy
  obtain⟨u',h1,h2⟩:=Qaz h hy
  rw[hv] at h1;cases h1;exact h2
theorem killL_get {l:List Nat}:∀{xs:List A}{i:Nat}{x:A},xs[i]? = some x→(A.killL l xs)[i]? = some (x.kill l)
 |[],_,_,h=>by simp at h
 |y::xs,0,x,h=>by simp at h;subst h;simp[A.killL]
 |y::xs,i+1,x,h=>by simp at h;simpa[A.killL] using killL_get h
theorem Rel.ownC (h:Rel B s a w ρ) (j ci k m:Nat):∃σ,Rel B (s.ownC j ci k m) a w σ:=by
 unfold St.ownC
 split
 ·rename_i xs hj
  split
  ·rename_i hx
   split
   ·rename_i hc
    simp only[Bool.and_eq_true,bne_iff_ne,ne_eq] at hc
    obtain⟨hid,hne⟩:=hc
    have h1:=h.mv (w':=w) none k (.row m []) (.slice none 0 0) (Qan hid) rfl rfl rfl (Nat.le_refl _) (fun _ _ _=>rfl) (fun b hb=>by simp[blockOf] at hb) (fun C' _ => .inl ⟨rfl,Qgi⟩)
    have e:(j==k)=false:=by simpa using fun e=>hne e.symm
    have hj1:(s.mv none k (.row m [])).objs j=some (.box (A.killL [k] xs)):=by simp only[St.mv,e,hj,O.kill];rfl
    obtain⟨b,cur,e0,h2,h3,h4⟩:=h1.heap.obj j _ hj1
    refine⟨_,h1.set (w':=w) j _ (.box ((A.killL [k] xs).set ci (.ref k))) hj1 rfl rfl rfl (Nat.le_refl _) (fun _ _ _=>rfl) (fun C' hC=>⟨b,cur,e0,h2,h3,?_⟩)⟩
    have hx1:=killL_get (l:=[k]) hx
    obtain⟨u,h5,h6⟩:=Qaz h4 hx1
    simp only[A.kill,relA,rep] at h6
    refine relAs_set (Qas hC _ _ h4) h5 ?_
    simp only[relA,if_true];exact h6
   ·exact⟨ρ,h⟩
  ·exact⟨ρ,h⟩
 ·exact⟨ρ,h⟩
def St.nilC (s:St)(j ci m:Nat):St:=match s.objs j with
 |some (.box xs)=>match xs[ci]? with
  |some (.t (.v (.slice none 0 0)))=>s.set j (.box (xs.set ci (.t (.sl m []))))
  |_=>s
 |_=>s
theorem Rel.nilC (h:Rel B s a w ρ) (j ci m:Nat):Rel B (s.nilC j ci m) a w ρ:=by
 unfold St.nilC
 split
 ·rename_i xs hj
  split
  ·rename_i hx
   obtain⟨b,cur,e0,h2,h3,h4⟩:=h.heap.obj j _ hj
   refine h.set (w':=w) j _ _ hj rfl rfl rfl (Nat.le_refl _) (fun _ _ _=>rfl) (fun C' hC=>⟨b,cur,e0,h2,h3,?_⟩)
   obtain⟨u,h5,h6⟩:=Qaz h4 hx
   simp only[relA,rep] at h6
   refine relAs_set (Qas hC _ _ h4) h5 ?_
   simp only[relA,rep];exact .inl ⟨trivial,.inl h6⟩
  ·exact h
 ·exact h
def Prep.run:Prep→St→St
 |.ownC j ci k m,s=>s.ownC j ci k m
 |.nilC j ci m,s=>s.nilC j ci m
 |.nil d m,s=>s.nilT d m
 |.ren i j,s=>s.ren i j
 |.frz j,s=>s.frz j
 |.own d j m,s=>s.ownNil d j m
 |.keep ks ids,s=>norm ks ids s
def preps:List Prep→St→St
 |[],s=>s
 |p::l,s=>preps l (p.run s)
theorem Rel.preps:∀(l:List Prep){s:St}{ρ:Nat→Value},Rel B s a w ρ→∃σ,Rel B (Ab.preps l s) a w σ
 |[],s,ρ,h=>⟨ρ,h⟩
 |.nil d m::l,s,ρ,h=>Rel.preps l (h.nilT d m)
 |.ren i j::l,s,ρ,h=>let ⟨_,h1⟩:=h.ren i j;Rel.preps l h1
 |.frz j::l,s,ρ,h=>Rel.preps l (h.frz j)
 |.own d j m::l,s,ρ,h=>let ⟨_,h1⟩:=h.ownNil d j m;Rel.preps l h1
 |.keep ks ids::l,s,ρ,h=>Rel.preps l (h.norm ks ids)
 |.ownC j ci k m::l,s,ρ,h=>let ⟨_,h1⟩:=h.ownC j ci k m;Rel.preps l h1
 |.nilC j ci m::l,s,ρ,h=>Rel.preps l (h.nilC j ci m)
theorem W_preps {c:Code}{K:Exit→St→Prop}(l:List Prep) (h:W P n c K (preps l s)):W P n c K s:=by
 intro B hB a w ρ hr
 obtain⟨σ,h1⟩:=hr.preps l
 exact h B hB a w σ h1
def St.clean (s:St)(D:List Nat):St:={ s with slots:=fun i=>(s.slots i).kill D,objs:=fun i=>(s.objs i).map (O.kill D) }
theorem Rel.clean (h:Rel B s a w ρ) (D:List Nat):Rel B (s.clean D) a w ρ:=by
 have hobjs:∀i,((s.clean D).objs i).isSome=(s.objs i).isSome:=fun i=>by simp[St.clean]
 have hown:own ρ (s.clean D).objs=own ρ s.objs:=by funext b;simp only[own,hobjs]
 refine⟨⟨fun i o hi => ?_,fun i k b hi hk => ?_,fun b hb => ?_,h.heap.hlt⟩,by rw[hown];exact h.frm,fun i => ?_,h.keep,h.n,h.defers,h.base⟩
 ·simp only[St.clean,Option.map_eq_some_iff] at hi
  obtain⟨o0,h1,rfl⟩:=hi
  rw[hown]
  exact relO_kill (fun _ _=>rfl) o0 (h.heap.obj i o0 h1)
 ·rw[hobjs] at hi hk;exact h.heap.dis i k b hi hk
 ·rw[hown] at hb;exact h.heap.nhid b hb
 ·rw[hown];exact Qen (fun _ _=>rfl) _ _ (h.slots i)
theorem clean_fresh (D:List Nat):Fresh D (s.clean D):=
 ⟨fun t i hi=>(Qb9 _ i hi).2,fun k o ho i hi=>by
  simp only[St.clean,Option.map_eq_some_iff] at ho
  obtain⟨o0,h1,rfl⟩:=ho
  exact(Qdt o0 i hi).2⟩
inductive HB where
 |reg (id:Nat) (l:List Prep) (hs:List (Nat×Hint))
 |dir (t:Nat) (b:Bool)
 |blk (id:Nat) (l:List Prep)
 |loop (e:Exit) (l:List Prep) (st:St)
def andL (p:List Prop)(q:Prop):Prop:=match p with
 |[]=>q
 |p=>AllP p∧q
theorem andL_spec {p:List Prop}{q:Prop}(h:andL p q):AllP p∧q:=by
 unfold andL at h
 split at h
 ·exact⟨trivial,h⟩
 ·exact h
def dsts:List Oper→List Nat
 |[]=>[]
 |o::l=>match o.dst with|some d=>d::dsts l|none=>dsts l
def Same (e:Exit)(st:St):Prop:=e=e∧st=st
theorem same {e:Exit}{st:St}:Same e st:=⟨rfl,rfl⟩
def mixedB (P:Program):Bool:=P.follows .mixedOrders
def st0 (xs:List A)(os:List (Nat×O)):St:=⟨fun i=>(xs[i]?).getD (.tup []),ofO os,keptIds (os.map (·.1))⟩
def resA (P:Program)(s:St):List ResultVar→Option (List A)
 |[]=>some []
 |.tmp t::r=>(resA P s r).map (s.slots t :: ·)
 |.cell t ty::r=>match s.slots t with
  |.at i off=>match s.objs i with
   |some (.box xs)=>match pick P ty (xs.drop off),resA P s r with|some y,some l=>some (y::l)|_,_=>none
   |_=>none
  |_=>none
def gone (s:St)(ids:List Nat)(i:Nat):Option O:=if ids.contains i then none else s.objs i
def oneOr:List A→A
 |[x]=>x
 |l => .tup l
def retK (P:Program)(rs:List ResultVar)(ids:List Nat)(R:A→List (Nat×O)→Prop)(e:Exit)(s:St):Prop:=
 match e with
 |.normal | .ret=>match resA P s rs with
  |some l=>match (roA (gone s ids) (oneOr l)).only ids with
   |true=>R (roA (gone s ids) (oneOr l)) (pickOs s.objs ids)
   |false=>False
  |none=>False
 |_=>False
theorem relAs_getD {C:View}{xs:List A}{us:List Value}(h:relAs ρ C xs us) (i:Nat) (t:Array Value) (ht:∀j,j<us.length→t.getD j undef=us.getD j undef) (hu:∀j,us.length≤j→t.getD j undef=undef):
  relA ρ C ((xs[i]?).getD (.tup [])) (t.getD i undef):=by
 have hl:=Qaj h
 by_cases hi:i<xs.length
 ·obtain⟨u,h1,h2⟩:=Qaz (x:=xs[i]) (j:=i) h (by simp[hi])
  rw[ht i (by omega)]
  simp[hi,h1,h2]
 ·rw[hu i (by omega)]
  simp[hi,relA_undef]
theorem Qfb {rs:List ResultVar}(h:Rel B s a w ρ) (hty:∀t ty,ResultVar.cell t ty∈rs→(P.underlying ty).isSome=true):∀{l:List ResultVar}{xs:List A},(∀r∈l,r∈rs)→resA P s l=some xs→
  ∃us:List Value,(l.mapM fun r=>(match r with | .tmp t=>pure (a.tmps.getD t undef) | .cell ad t=>do loadVar t (←asAddr (a.tmps.getD ad undef)):Sem Value)).run P w = .ok us w∧relAs ρ (view B.hid (own ρ s.objs) w) xs us
 |[],xs,_,hr=>by simp only[resA,Option.some.injEq] at hr;subst hr;exact⟨[],by simp,by simp[relAs]⟩
 |.tmp t::l,xs,hm,hr=>by
  simp only[resA,Option.map_eq_some_iff] at hr
  obtain⟨ys,h1,rfl⟩:=hr
  obtain⟨us,h2,h3⟩:=Qfb h hty (fun r hr=>hm r (by simp[hr])) h1
  exact⟨a.tmps.getD t undef::us,by simp only[List.mapM_cons,Sem.run_bind,Sem.run_pure,Result.andThen_ok,h2],by simp only[relAs];exact⟨_,_,rfl,h.slots t,h3⟩⟩
 |.cell t ty::l,xs,hm,hr=>by
  simp only[resA] at hr
  split at hr
  ·rename_i i off he
   split at hr
   ·rename_i bx ho
    split at hr
    ·rename_i y ys hy hys
     cases hr
     obtain⟨us,h2,h3⟩:=Qfb h hty (fun r hr=>hm r (by simp[hr])) hys
     have hs:=h.slots t
     rw[he] at hs;simp only[relA] at hs
     obtain⟨b,h4,h5⟩:=hs
     obtain⟨b',cur,e,h6,h7,h8⟩:=h.heap.obj i _ ho
     rw[h4] at h6;cases h6
     obtain⟨d,hd⟩:=Option.isSome_iff_exists.1 (hty t ty (hm _ (by simp)))
     obtain⟨u,h9,h10⟩:=Qex (P:=P) (w:=w) (b:=b) (off:=off) hd hy (Qcy h8 off) fun j v hj=>by
      rw[List.getElem?_drop] at hj
      rw[cell_of_row w b (off+j) cur e (0,0) h7];simpa using hj
     refine⟨u::us,?_,by simp only[relAs];exact⟨_,_,rfl,h10,h3⟩⟩
     have e:asAddr (.pointer (some ⟨b,off,none⟩))=pure ⟨b,off,none⟩:=rfl
     simp only[List.mapM_cons,Sem.run_bind,Sem.run_pure,Result.andThen_ok,h5,e,h9,h2]
    ·cases hr
   ·cases hr
  ·cases hr
def cellsOk (P:Program)(rs:List ResultVar):Bool:=rs.all fun | .cell _ ty=>(P.underlying ty).isSome|_=>true
theorem Con_of_W {f:FuncId}{fn:Func}{c:Code}{xs:List A}{os:List (Nat×O)}{R:A→List (Nat×O)→Prop}(rs:List ResultVar) (ids:List Nat) (hent:Enter P f) (hf:P.funcs[f]? = some fn) (hb:fn.body=some c)
  (hrs:fn.results=rs.toArray) (hc:cellsOk P rs=true) (hn:fn.ntmps=n) (hxn:xs.length≤n) (h:W P n c (retK P rs ids R) (st0 xs os)):Con P f xs os R:=by
 refine⟨hent,fun hid ρ w us hH hargs => ?_⟩
 have hul:=Qaj hargs
 let a0:Act:={ tmps:=us.toArray++Array.replicate (fn.ntmps-us.toArray.size) undef,defers:=[] }
 let B:Base:={ hid:=hid,w0:=w,own0:=own ρ (ofO os),ρ0:=ρ,n:=n,bs:=keptIds (os.map (·.1)) }
 have hrel:Rel B (st0 xs os) a0 w ρ:=by
  refine⟨hH,Frm.refl w _,fun i => ?_,fun i _=>rfl,?_,rfl,rfl⟩
  ·refine relAs_getD hargs i _ (fun j hj => ?_) (fun j hj => ?_)
   ·simp only[a0,Array.getD_eq_getD_getElem?]
    rw[Array.getElem?_append_left (by simpa using hj)]
    simp[List.getD]
   ·simp only[a0,Array.getD_eq_getD_getElem?]
    rw[Array.getElem?_append_right (by simpa using hj),Array.getElem?_replicate]
    split<;>rfl
  ·simp only[a0,Array.size_append,Array.size_replicate,List.size_toArray,B];omega
 refine(callsIn_wide (n:=0)).1 (callsIn_of_wp_marks (F:=FR none) hf hb FR_fn (wpIn_mono (h B rfl a0 w ρ hrel) ?_))
 rintro e a1 w1 ⟨B',s',ρ',hK,hx,hr0⟩
 have fin:∀(a':Act)(w':World),Rel B s' a' w' ρ'→(match resA P s' rs with|some l=>(match (roA (gone s' ids) (oneOr l)).only ids with|true=>R (roA (gone s' ids) (oneOr l)) (pickOs s'.objs ids)|false=>False)|none=>False)→
   ∃v,(results fn a'.tmps).run P w' = .ok v w'∧∃r os' σ u,R r os'∧Ending.returned v = .returned u∧Heap hid σ (ofO os') w'∧relA σ (view hid (own σ (ofO os')) w') r u∧
    Frm w (own ρ (ofO os)) (own σ (ofO os')) w'∧∀i,(ofO os i).isSome=true→loose i=false→σ i=ρ i:=by
  intro a' w' hr
  intro hres
  split at hres
  ·rename_i l hl
   have hR:R (roA (gone s' ids) (oneOr l)) (pickOs s'.objs ids):=by
    split at hres
    ·exact hres
    ·exact hres.elim
   obtain⟨us',h1,h2⟩:=Qfb (rs:=rs) (P:=P) hr (fun t ty hm=>by
    have:=List.all_eq_true.1 hc _ hm;simpa using this) (fun r hr=>hr) hl
   have hn':=hr.weak (s':={ s' with objs:=ofO (pickOs s'.objs ids) }) rfl (fun i => .inl rfl) (fun i=>by
    simp only[ofO,Qar];split
    ·exact .inl rfl
    ·exact .inr rfl)
   have hmono:(view hid (own ρ' s'.objs) w').le (view hid (own ρ' (ofO (pickOs s'.objs ids))) w'):=by
    intro b o c hcc
    rw[Qae] at hcc ⊢
    refine⟨fun⟨i,hi,hbi⟩=>hcc.1 ⟨i,?_,hbi⟩,hcc.2⟩
    simp only[ofO,Qar] at hi
    split at hi
    ·exact hi
    ·cases hi
   have h3:=Qas hmono _ _ h2
   have hv:(results fn a'.tmps).run P w' = .ok (if h:us'.toArray.size=1 then us'.toArray[0] else .tuple us'.toArray) w':=by
    unfold results
    rw[hrs,List.mapM_toArray]
    simp only[Sem.run_bind,Sem.run_map]
    erw [h1]
    simp
   have hrows:∀j m rows,gone s' ids j=some (.row m rows)→rep (view hid (own ρ' (ofO (pickOs s'.objs ids))) w') (.sl m rows) (ρ' j):=by
    intro j m rows hj
    unfold gone at hj
    split at hj
    ·cases hj
    ·rename_i hji
     have hji:j∉ids:=by simpa using hji
     rcases hr.heap.obj j _ hj with⟨h4,h5⟩|⟨b,cap,cur,e,h4,h5,h6,h7,h8,h9,h9c⟩
     ·simp only[rep];exact .inl ⟨h4,Qfj h5⟩
     ·simp only[rep]
      refine .inr ⟨b,0,cap,h4,h6,h7,Qad hmono m rows _ _ 0 (fun off c hc => ?_) h9⟩
      rw[Qae]
      refine⟨fun⟨i,hi,hbi⟩ => ?_,hr.heap.nhid b ⟨j,by simp[hj],by rw[h4];exact Qah h9c⟩,by rw[cell_of_row w' b off cur e (0,0) h5];exact hc⟩
      simp only[ofO,Qar] at hi
      split at hi
      ·rename_i hii
       have:=hr.heap.dis i j b hi (by simp[hj]) hbi (by rw[h4];exact Qah h9c)
       subst this;exact hji hii
      ·cases hi
   refine⟨_,hv,_,_,ρ',_,hR,rfl,hn'.heap,relA_ro hrows _ _ ?_,hn'.frm,fun i hi hli => ?_⟩
   ·unfold oneOr
    split
    ·rename_i x
     simp only[relAs] at h3
     obtain⟨u,us1,rfl,h4,rfl⟩:=h3
     simpa using h4
    ·rename_i hne
     have hlen:¬ us'.length=1:=by
      rw[Qaj h3]
      intro h4
      obtain⟨x,hx⟩:=List.length_eq_one_iff.1 h4
      exact hne x hx
     simp only[List.size_toArray,hlen,dif_neg,not_false_eq_true,relA]
     exact⟨_,rfl,by simpa using h3⟩
   ·refine hr.keep i ?_
    rw[hr.base]
    obtain⟨o,ho⟩:=Option.isSome_iff_exists.1 hi
    exact List.mem_filter.2 ⟨List.mem_map.2 ⟨(i,o),Qcw ho,rfl⟩,by simp[hli]⟩
  ·exact hres.elim
 have lv:∀(Ds:List Nat),Ds.Nodup→∀(a':Act)(w':World),Rel { B with ds:=Ds.map mark } s' a' w' ρ'→(∀D∈Ds,B.w0.heap.size≤D∧¬ own ρ' s'.objs D∧w'.heap[D]? = some (.deferred (some [])))→
   (match resA P s' rs with|some l=>(match (roA (gone s' ids) (oneOr l)).only ids with|true=>R (roA (gone s' ids) (oneOr l)) (pickOs s'.objs ids)|false=>False)|none=>False)→
   LeavesInM (FR none) 0 P fn a'.tmps (fun e w'=>∃r os' σ u,R r os'∧e = .returned u∧Heap hid σ (ofO os') w'∧relA σ (view hid (own σ (ofO os')) w') r u∧
    Frm w (own ρ (ofO os)) (own σ (ofO os')) w'∧∀i,(ofO os i).isSome=true→loose i=false→σ i=ρ i) a'.defers .returning w':=by
  intro Ds
  induction Ds with
  |nil=>
   intro _ a' w' hr _ hres
   rw[show a'.defers=[] from hr.defers]
   exact fin a' w' hr hres
  |cons D Ds ih=>
   intro hnd a' w' hr hm hres
   rw[show a'.defers=mark D::Ds.map mark from hr.defers]
   obtain⟨h1,h2,h3⟩:=hm D (by simp)
   have hnd':=List.nodup_cons.1 hnd
   refine⟨by simp,.inl ⟨D,_,rfl,run_takeDeferred h3,?_⟩⟩
   have:=ih hnd'.2 _ _ (hr.unmark h1 h2 h3) (fun k hk=>by
    obtain⟨k1,k2,k3⟩:=hm k (by simp[hk])
    exact⟨k1,k2,(World.putObj_heap_other (fun e:k=D=>hnd'.1 (by rw[←e];exact hk))).trans k3⟩) hres
   exact this
 have hall:(match resA P s' rs with|some l=>(match (roA (gone s' ids) (oneOr l)).only ids with|true=>R (roA (gone s' ids) (oneOr l)) (pickOs s'.objs ids)|false=>False)|none=>False)→LeavesInM (FR none) 0 P fn a1.tmps (fun e w'=>∃r os' σ u,R r os'∧e = .returned u∧Heap hid σ (ofO os') w'∧relA σ (view hid (own σ (ofO os')) w') r u∧
    Frm w (own ρ (ofO os)) (own σ (ofO os')) w'∧∀i,(ofO os i).isSome=true→loose i=false→σ i=ρ i) a1.defers .returning w1:=by
  intro hres
  obtain⟨Ds,d1,d2,d3⟩:=hx.ds
  have hb:=hr0.back hx
  rw[d1] at hb
  rw[show B.ds=[] from rfl,List.append_nil] at hb
  refine lv Ds d2 a1 w1 hb (fun D hD => ?_) hres
  obtain⟨k1,k2,k3⟩:=d3 D hD
  have hlt:D<B'.w0.heap.size:=(Array.getElem?_eq_some_iff.1 k3).1
  refine⟨k1,fun h4 => ?_,(hr0.frm.block D hlt k2).trans k3⟩
  rcases hr0.frm.new D h4 with h5|h5
  ·exact k2 h5
  ·omega
 cases e with
 |normal=>exact hall hK
 |ret=>exact hall hK
 |exit id=>exact hK.elim
 |goto l=>exact hK.elim
 |panic ch=>exact hK.elim
 |outgrown=>exact hK.elim
def bodyOf (fn:Func):Code:=fn.body.getD .skip
def loopIn:Code→Nat→Code ⊕ Nat
 |.seq x y,k=>match loopIn x k with | .inl c => .inl c | .inr k'=>loopIn y k'
 |.cond _ x y,k=>match loopIn x k with | .inl c => .inl c | .inr k'=>loopIn y k'
 |.block _ c,k=>loopIn c k
 |.loop c,k=>match k with|0 => .inl c|k+1=>loopIn c k
 |_,k => .inr k
def loopAt (fn:Func)(k:Nat):Code:=match loopIn (bodyOf fn) k with | .inl c=>c | .inr _ => .skip
end Go.Ab
