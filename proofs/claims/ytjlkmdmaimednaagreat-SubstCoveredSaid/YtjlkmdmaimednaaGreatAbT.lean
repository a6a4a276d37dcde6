import Derived.Test.YtjlkmdmaimednaaGreatAbQ
import Derived.Test.YtjlkmdmaimednaaGreatAbS
set_option linter.unusedVariables false
set_option linter.unusedSimpArgs false
namespace Go.Ab
variable {P:Program} {B:Base} {s:St} {a:Act} {w:World} {ρ:Nat→Value} {n:Nat}
inductive HT (V:Type):Type 1
 |nil
 |op (r i:Nat) (h:Hint) (next:HT V)
 |bo (r i:Nat) (x y:HT V)
 |both (t:Nat) (x y:HT V)
 |reg (r:Nat) (l:List Prep) (D:List Nat) (next:HT V)
 |rw (j:Nat) (rows:List (List T)) (next:HT V)
 |rwS (d:Nat) (rows:List (List T)) (next:HT V)
 |or (x y:HT V)
 |ex (α:Type) (f:α→HT V)
 |loop (l:List Prep) (outs:HT V)
 |out (Y:Type) (e:Exit) (l:List Prep) (st:Y→St) (next:Y→HT V) (rest:HT V)
 |ret (l:List Prep) (v:V)
 |round (l:List Prep)
 |fin (l:List Prep) (nl:List (List Nat×Nat)) (v:V)
 |jn (pos:Nat) (l:List Prep) (Y:Type) (st:Y→St) (next:Y→HT V) (y:Y)
 |opA (r i:Nat) (Y:Type) (R:Y→Prop) (ids ro:List Nat) (v:Y→A) (os:Y→List (Nat×O)) (next:Y→HT V)
 |nxA (r i:Nat) (Y:Type) (R:Y→Prop) (E:Y→Ent) (next:Y→HT V)
variable {V:Type}
def Br (β:Bool)(X Y:Prop):Prop:=(β=true∧X)∨(β=false∧Y)
def Lv {α β:Type _}(a b:α)(c d:β)(Q:Prop):Prop:=(a=b∧c=d)∧Q
def adm:HT V→St→(HT V→St→Prop)→Prop
 |.ex α f,s,k=>∃x,adm (f x) s k
 |.or x y,s,k=>adm x s k∨adm y s k
 |.rw j rows n,s,k=>match s.objs j with
  |some (.row m cur)=>cur=rows∧adm n (s.set j (.row m rows)) k
  |_=>False
 |.rwS d rows n,s,k=>match s.slots d with
  |.t (.sl m cur)=>cur=rows∧adm n (s.put d (.t (.sl m rows))) k
  |_=>False
 |.nil,s,k=>k .nil s
 |.op r i h n,s,k=>k (.op r i h n) s
 |.bo r i x y,s,k=>k (.bo r i x y) s
 |.both t x y,s,k=>k (.both t x y) s
 |.reg r l D n,s,k=>k (.reg r l D n) s
 |.loop l o,s,k=>k (.loop l o) s
 |.out Y e l st n r,s,k=>k (.out Y e l st n r) s
 |.ret l v,s,k=>k (.ret l v) s
 |.round l,s,k=>k (.round l) s
 |.fin l nl v,s,k=>k (.fin l nl v) s
 |.jn q l Y st nx y,s,k=>k (.jn q l Y st nx y) s
 |.opA r i Y R ids ro v os nx,s,k=>k (.opA r i Y R ids ro v os nx) s
 |.nxA r i Y R E nx,s,k=>k (.nxA r i Y R E nx) s
theorem St.ext2 {s t:St}(h1:s.slots=t.slots) (h2:s.objs=t.objs) (h3:s.base=t.base):s=t:=by
 cases s;cases t;simp_all
theorem set_self {j:Nat}{o:O}(h:s.objs j=some o):s.set j o=s:=by
 refine St.ext2 rfl (funext fun i => ?_) rfl
 simp only[St.set]
 by_cases hi:i=j
 ·subst hi;simp[h]
 ·have:(i==j)=false:=by simpa using hi
  simp[this]
theorem put_self {d:Nat}{x:A}(h:s.slots d=x):s.put d x=s:=by
 refine St.ext2 (funext fun i => ?_) rfl rfl
 simp only[St.put]
 by_cases hi:i=d
 ·subst hi;simp[h]
 ·have:(i==d)=false:=by simpa using hi
  simp[this]
theorem Qbk:∀(ht:HT V)(s:St)(k:HT V→St→Prop),adm ht s k→∃ht',k ht' s
 |.ex α f,s,k,h=>by obtain⟨x,h⟩:=h;exact Qbk (f x) s k h
 |.or x y,s,k,h=>by
  rcases h with h|h
  ·exact Qbk x s k h
  ·exact Qbk y s k h
 |.rw j rows n,s,k,h=>by
  simp only[adm] at h
  split at h
  ·rename_i m cur ho
   obtain⟨rfl,h⟩:=h
   rw[set_self ho] at h
   exact Qbk n s k h
  ·exact h.elim
 |.rwS d rows n,s,k,h=>by
  simp only[adm] at h
  split at h
  ·rename_i m cur ho
   obtain⟨rfl,h⟩:=h
   rw[put_self ho] at h
   exact Qbk n s k h
  ·exact h.elim
 |.nil,s,k,h=>⟨_,h⟩
 |.op _ _ _ _,s,k,h=>⟨_,h⟩
 |.bo _ _ _ _,s,k,h=>⟨_,h⟩
 |.both _ _ _,s,k,h=>⟨_,h⟩
 |.reg _ _ _ _,s,k,h=>⟨_,h⟩
 |.loop _ _,s,k,h=>⟨_,h⟩
 |.out _ _ _ _ _ _,s,k,h=>⟨_,h⟩
 |.ret _ _,s,k,h=>⟨_,h⟩
 |.round _,s,k,h=>⟨_,h⟩
 |.fin _ _ _,s,k,h=>⟨_,h⟩
 |.jn _ _ _ _ _ _,s,k,h=>⟨_,h⟩
 |.opA _ _ _ _ _ _ _ _ _,s,k,h=>⟨_,h⟩
 |.nxA _ _ _ _ _ _,s,k,h=>⟨_,h⟩
def admN (pos:Nat)(ht:HT V)(s:St)(k:HT V→St→Prop):Prop:=
 adm ht s fun ht s=>match ht with
  |.jn q l Y st nx y=>match q==pos with
   |true=>preps l s=st y∧k (nx y) (st y)
   |false=>k (.jn q l Y st nx y) s
  |ht=>k ht s
theorem Qcd (pos:Nat) (ht:HT V) (s:St) (k:HT V→St→Prop) (h:admN pos ht s k):∃ht' s',k ht' s'∧∀(P:Program)(n:Nat)(c:Code)(K:Exit→St→Prop),W P n c K s'→W P n c K s:=by
 obtain⟨ht1,h⟩:=Qbk _ _ _ h
 split at h
 ·rename_i q l Y st nx y
  split at h
  ·obtain⟨h1,h2⟩:=h
   exact⟨_,_,h2,fun P n c K hw=>W_preps l (by rw[h1];exact hw)⟩
  ·exact⟨_,s,h,fun _ _ _ _ h=>h⟩
 ·exact⟨_,s,h,fun _ _ _ _ h=>h⟩
def takeOp (r i:Nat):HT V→Hint×HT V
 |.op r' i' h n=>if r'==r&&i'==i then(h,n) else(.no,.op r' i' h n)
 |h=>(.no,h)
def takeBo (r i:Nat):HT V→Option (HT V×HT V)
 |.bo r' i' x y=>if r'==r&&i'==i then some (x,y) else none
 |_=>none
def takeR (r:Nat):HT V→List Prep×List Nat×HT V
 |.reg r' l D n=>if r'==r then(l,D,n) else([],[],.reg r' l D n)
 |h=>([],[],h)
structure AnyH (V:Type) where
 Y:Type
 R:Y→Prop
 ids:List Nat
 ro:List Nat
 v:Y→A
 os:Y→List (Nat×O)
 next:Y→HT V
def takeA (r i:Nat):HT V→Option (AnyH V)
 |.opA r' i' Y R ids ro v os n=>if r'==r&&i'==i then some ⟨Y,R,ids,ro,v,os,n⟩ else none
 |_=>none
def anyOk (s:St)(ids:List Nat)(r:A)(os':List (Nat×O)):Bool:=(newIds ids os').all (idOk s)&&r.only (keptIds ids++newIds ids os')&&os'.all (fun p=>p.2.only (keptIds ids++newIds ids os'))
def onlyIf:Bool→Prop→Prop
 |true,p=>p
 |false,_=>False
theorem onlyIf_spec:∀{b:Bool}{p:Prop},onlyIf b p→b=true∧p
 |true,_,h=>⟨rfl,h⟩
def callA (P:Program)(n:Nat)(ops:List Oper)(i:Nat)(s:St)(z:AnyH V)(k:HT V→St→Prop):Prop:=
 match ops[i]? with
 |some o=>match o.guard,dstOk n o.dst,o.op with
  |none,true,.call ⟨.value f,args,_⟩=>match calleeOf s f,pickO s z.ids with
   |some (g,cap),some os=>Con P g (args.toList.map (ev s)++cap) os (fun r' o'=>∃y,z.R y∧r'=z.v y∧o'=z.os y++pickOs s.objs z.ro)∧
     ∀y,z.R y→onlyIf (anyOk s z.ids (z.v y) (z.os y++pickOs s.objs z.ro)) (k (z.next y) ((s.after z.ids (newIds z.ids (z.os y++pickOs s.objs z.ro)) (z.os y++pickOs s.objs z.ro)).putO o.dst (z.v y)))
   |_,_=>False
  |_,_,_=>False
 |none=>False
theorem callA_sound {ops:Array Oper}{i:Nat}{s:St}{z:AnyH V}{k:HT V→St→Prop}{Q:Exit→Act→World→Prop}{K:Act→World→Prop}{a:Act}{w:World}{ρ:Nat→Value}(h:Rel B s a w ρ) (hv:callA P B.n ops.toList i s z k)
  (hK:∀ht s' a' w' ρ',k ht s'→Rel B s' a' w' ρ'→K a' w'):
  match ops[i]? with
  |none=>K a w
  |some o=>if Region.wanted o (yielded ops a.tmps) then o.wpIn (FR B.ro) 0 P a w K Q else K (a.put o.dst undef) w:=by
 unfold callA at hv
 have e:ops.toList[i]? = ops[i]? :=by simp
 rw[e] at hv
 cases ho:ops[i]? with
 |none=>rw[ho] at hv;exact hv.elim
 |some o=>
  rw[ho] at hv
  simp only at hv ⊢
  split at hv
  ·rename_i f args tys hg hd hop
   split at hv
   ·rename_i g cap os hcal hpk
    obtain⟨hc,hall⟩:=hv
    have hw:Region.wanted o (yielded ops a.tmps)=true:=Qdc (b:=true) h (by unfold guardA;rw[hg])
    rw[if_pos hw]
    obtain⟨g',us,h1,h2⟩:=eCall_any h hop hcal hpk hc (fun r' os' hR=>by
     obtain⟨y,hy,rfl,rfl⟩:=hR
     have h3:=(onlyIf_spec (hall y hy)).1
     unfold anyOk at h3
     simp only[Bool.and_eq_true] at h3
     exact⟨h3.1.1,h3.1.2,h3.2⟩) (Qdz hd)
    refine wpIn_ent (fun c hc=>by rw[hop] at hc;cases hc) h1 h2 ?_
    rintro e w' ⟨u,ρ',r',os',⟨y,hy,rfl,rfl⟩,rfl,h3⟩
    exact hK _ _ _ _ _ (onlyIf_spec (hall y hy)).2 h3
   ·exact hv.elim
  ·exact hv.elim
structure NxH (V:Type) where
 Y:Type
 R:Y→Prop
 E:Y→Ent
 next:Y→HT V
def takeN (r i:Nat):HT V→Option (NxH V)
 |.nxA r' i' Y R E n=>if r'==r&&i'==i then some ⟨Y,R,E,n⟩ else none
 |_=>none
def nxtK:Option A→(A→Prop)→Prop
 |some v,f=>f v
 |none,_=>False
theorem nxtK_spec:∀{x:Option A}{f:A→Prop},nxtK x f→∃v,x=some v∧f v
 |some v,_,h=>⟨v,rfl,h⟩
def nextA (P:Program)(n:Nat)(ops:List Oper)(i:Nat)(s:St)(z:NxH V)(k:HT V→St→Prop):Prop:=
 match ops[i]? with
 |some o=>match o.guard,dstOk n o.dst,o.op with
  |none,true,.next x false=>match ev s x with
   |.at kk 0=>match s.objs kk with
    |some (.iter j since seen last)=>match mapAt s (.ref j) with
     |some (_,agg,clock,es)=>((∀x∈es,x.born<since)∧since≤last∧∃x∈es,x.born∉seen)∧(∀e∈es,e.born∉seen→∃y,z.R y∧e=z.E y)∧
       ∀y,z.R y→nxtK (toVal agg (z.E y).val) (fun v=>k (z.next y) ((s.set kk (.iter j since (seen++[(z.E y).born]) clock)).putO o.dst (.tup [.t (boo true),ofVal1 (z.E y).key,v])))
     |none=>False
    |_=>False
   |_=>False
  |_,_,_=>False
 |none=>False
theorem nextA_sound {ops:Array Oper}{i:Nat}{s:St}{z:NxH V}{k:HT V→St→Prop}{Q:Exit→Act→World→Prop}{K:Act→World→Prop}{a:Act}{w:World}{ρ:Nat→Value}(h:Rel B s a w ρ) (hv:nextA P B.n ops.toList i s z k)
  (hK:∀ht s' a' w' ρ',k ht s'→Rel B s' a' w' ρ'→K a' w'):
  match ops[i]? with
  |none=>K a w
  |some o=>if Region.wanted o (yielded ops a.tmps) then o.wpIn (FR B.ro) 0 P a w K Q else K (a.put o.dst undef) w:=by
 unfold nextA at hv
 have e:ops.toList[i]? = ops[i]? :=by simp
 rw[e] at hv
 cases ho:ops[i]? with
 |none=>rw[ho] at hv;exact hv.elim
 |some o=>
  rw[ho] at hv
  simp only at hv ⊢
  split at hv
  ·rename_i x hg hd hop
   split at hv
   ·rename_i kk hx
    split at hv
    ·rename_i j since seen last hk
     split at hv
     ·rename_i j' agg clock es hm
      obtain⟨⟨q1,q2,q3⟩,hin,hall⟩:=hv
      have hw:Region.wanted o (yielded ops a.tmps)=true:=Qdc (b:=true) h (by unfold guardA;rw[hg])
      rw[if_pos hw]
      obtain⟨e1,he1,he2,he3⟩:=eNextA_sound (P:=P) h hop hx hk hm q1 q2 q3 (Qdz hd)
      obtain⟨y,hy,rfl⟩:=hin e1 he1 he2
      obtain⟨v,hv1,hv2⟩:=nxtK_spec (hall y hy)
      obtain⟨u,w',ρ',h1|⟨h1,rfl⟩,h2⟩:=he3 v hv1
      ·exact wpIn_val (fun c hc=>by rw[hop] at hc;cases hc) h1 (hK _ _ _ _ _ hv2 h2)
      ·exact wpIn_skp (fun c hc=>by rw[hop] at hc;cases hc) h1 (hK _ _ _ _ _ hv2 h2)
     ·exact hv.elim
    ·exact hv.elim
   ·exact hv.elim
  ·exact hv.elim
def opsT (P:Program)(n r:Nat)(ops:List Oper):List Nat→HT V→(HT V→St→Prop)→St→Prop
 |[],ht,K,s=>K ht s
 |i::rest,ht,K,s=>adm ht s fun ht s=>match takeA r i ht with
  |some z=>callA P n ops i s z fun ht s=>opsT P n r ops rest ht K s
  |none=>match takeN r i ht with
  |some z=>nextA P n ops i s z fun ht s=>opsT P n r ops rest ht K s
  |none=>match takeBo r i ht with
   |some (x,y)=>match opAt P n ops [(i,.dir true)] i s,opAt P n ops [(i,.dir false)] i s with
    |some (p1,s1),some (p2,s2)=>(AllP p1∧opsT P n r ops rest x K s1)∨(AllP p2∧opsT P n r ops rest y K s2)
    |_,_=>False
   |none=>match opAt P n ops [(i,(takeOp r i ht).1)] i s with
    |some (p,s')=>andL p (opsT P n r ops rest (takeOp r i ht).2 K s')
    |none=>False
theorem Qb7 {r:Nat}{ops:Array Oper}{Kt:HT V→St→Prop}{Q:Exit→Act→World→Prop}:∀(l:List Nat)(ht:HT V){s:St}{a:Act}{w:World}{ρ:Nat→Value},Rel B s a w ρ→opsT P B.n r ops.toList l ht Kt s→
  (∀ht' s' a' w' ρ',Kt ht' s'→Rel B s' a' w' ρ'→Q .normal a' w')→wpOpsIn (FR B.ro) 0 P ops Q l a w
 |[],ht,s,a,w,ρ,h,hv,hQ=>hQ _ _ _ _ _ hv h
 |i::rest,ht,s,a,w,ρ,h,hv,hQ=>by
  simp only[opsT] at hv
  obtain⟨ht',hv⟩:=Qbk _ _ _ hv
  split at hv
  ·have:=callA_sound (Q:=Q) (K:=wpOpsIn (FR B.ro) 0 P ops Q rest) h hv fun ht s' a' w' ρ' hk h'=>Qb7 rest ht h' hk hQ
   exact Qc3 this
  split at hv
  ·have:=nextA_sound (Q:=Q) (K:=wpOpsIn (FR B.ro) 0 P ops Q rest) h hv fun ht s' a' w' ρ' hk h'=>Qb7 rest ht h' hk hQ
   exact Qc3 this
  split at hv
  ·rename_i x y hb
   split at hv
   ·rename_i p1 s1 p2 s2 h1 h2
    rcases hv with⟨hp,hv⟩|⟨hp,hv⟩
    ·have:=Qd0 (Q:=Q) (K:=wpOpsIn (FR B.ro) 0 P ops Q rest) h h1 hp fun a' w' ρ' h'=>Qb7 rest x h' hv hQ
     exact Qc3 this
    ·have:=Qd0 (Q:=Q) (K:=wpOpsIn (FR B.ro) 0 P ops Q rest) h h2 hp fun a' w' ρ' h'=>Qb7 rest y h' hv hQ
     exact Qc3 this
   ·exact hv.elim
  ·split at hv
   ·rename_i p s' h1
    have hp:=andL_spec hv
    have:=Qd0 (Q:=Q) (K:=wpOpsIn (FR B.ro) 0 P ops Q rest) h h1 hp.1 fun a' w' ρ' h'=>Qb7 rest _ h' hp.2 hQ
    exact Qc3 this
   ·exact hv.elim
def opsR (P:Program)(n r:Nat)(ops:List Oper):List Nat→List Rec→HT V→(List Rec→HT V→St→Prop)→St→Prop
 |[],acc,ht,K,s=>K acc.reverse ht s
 |i::rest,acc,ht,K,s=>adm ht s fun ht s=>match takeBo r i ht with
  |some (x,y)=>match actAt P n ops [(i,.dir true)] i s,actAt P n ops [(i,.dir false)] i s with
   |some r1,some r2=>(AllP r1.p∧opsR P n r ops rest (r1::acc) x K (r1.g.apply r1.dst s))∨(AllP r2.p∧opsR P n r ops rest (r2::acc) y K (r2.g.apply r2.dst s))
   |_,_=>False
  |none=>match actAt P n ops [(i,(takeOp r i ht).1)] i s with
   |some r1=>andL r1.p (opsR P n r ops rest (r1::acc) (takeOp r i ht).2 K (r1.g.apply r1.dst s))
   |none=>False
theorem actAt_hint {ops:List Oper}{hs hs':List (Nat×Hint)}{i:Nat}{s:St}(h:hintOf hs i=hintOf hs' i):actAt P n ops hs i s=actAt P n ops hs' i s:=by
 unfold actAt;rw[h]
theorem runR_hint {ops:List Oper}{hs hs':List (Nat×Hint)}:∀(L:List Nat)(s:St),(∀i∈L,hintOf hs i=hintOf hs' i)→runR P n ops hs L s=runR P n ops hs' L s
 |[],s,h=>rfl
 |i::L,s,h=>by
  simp only[runR]
  rw[actAt_hint (h i (by simp))]
  split
  ·rw[runR_hint L _ fun j hj=>h j (by simp[hj])]
  ·rfl
theorem opsR_lin {r:Nat}{ops:List Oper}{Kt:List Rec→HT V→St→Prop}:∀(L:List Nat)(acc:List Rec)(ht:HT V)(s:St),L.Nodup→opsR P n r ops L acc ht Kt s→
  ∃hs rs s' ht',runR P n ops hs L s=some (rs,s')∧(∀q∈rs,AllP q.p)∧Kt (acc.reverse++rs) ht' s'
 |[],acc,ht,s,_,h=>⟨[],[],s,ht,rfl,by simp,by simpa[opsR] using h⟩
 |i::rest,acc,ht,s,hnd,h=>by
  obtain⟨hi,hnd⟩:=List.nodup_cons.1 hnd
  have fin:∀(hh:Hint)(r1:Rec)(x:HT V),actAt P n ops [(i,hh)] i s=some r1→AllP r1.p→opsR P n r ops rest (r1::acc) x Kt (r1.g.apply r1.dst s)→
    ∃hs rs s' ht',runR P n ops hs (i::rest) s=some (rs,s')∧(∀q∈rs,AllP q.p)∧Kt (acc.reverse++rs) ht' s':=by
   intro hh r1 x h1 hp h2
   obtain⟨hs,rs,s',ht',h3,h4,h5⟩:=opsR_lin rest (r1::acc) x _ hnd h2
   refine⟨(i,hh)::hs,r1::rs,s',ht',?_,?_,?_⟩
   ·simp only[runR]
    rw[actAt_hint (hs':=[(i,hh)]) (by simp[hintOf]),h1]
    simp only
    rw[runR_hint (hs':=hs) rest _ fun j hj => ?_,h3]
    have:(j==i)=false:=by
     have:j≠i:=fun e=>hi (e ▸ hj)
     simpa using this
    simp[hintOf,List.lookup_cons,this]
   ·intro q hq
    rcases List.mem_cons.1 hq with rfl|hq
    ·exact hp
    ·exact h4 q hq
   ·simpa using h5
  simp only[opsR] at h
  obtain⟨ht',h⟩:=Qbk _ _ _ h
  split at h
  ·rename_i x y hb
   split at h
   ·rename_i r1 r2 h1 h2
    rcases h with⟨hp,h⟩|⟨hp,h⟩
    ·exact fin _ _ _ h1 hp h
    ·exact fin _ _ _ h2 hp h
   ·exact h.elim
  ·split at h
   ·rename_i r1 h1
    have hp:=andL_spec h
    exact fin _ _ _ h1 hp.1 hp.2
   ·exact h.elim
inductive Outs:Type→Type 1
 |one {Y:Type} (e:Exit) (l:List Prep) (st:Y→St) (Q:Y→Prop):Outs Y
 |cons {Y R:Type} (e:Exit) (l:List Prep) (st:Y→St) (Q:Y→Prop) (rest:Outs R):Outs (Y ⊕ R)
def Outs.leaf:{V:Type}→Outs V→V→Exit→St→Prop
 |_,.one e l st Q,y,e',s'=>Lv e' e (preps l s') (st y) (Q y)
 |_,.cons e l st Q _,.inl y,e',s'=>Lv e' e (preps l s') (st y) (Q y)
 |_,.cons _ _ _ _ rest,.inr v,e',s'=>rest.leaf v e' s'
def Outs.K {V:Type}(o:Outs V):Exit→St→Prop:=fun e s=>∃v,o.leaf v e s
def outsOf (K:Exit→HT V→St→Prop):HT V→Option ((W:Type)×Outs W)
 |.out Y e l st next .nil=>some ⟨Y,.one e l st fun y=>K e (next y) (st y)⟩
 |.out Y e l st next rest=>match outsOf K rest with
  |some ⟨W,o⟩=>some ⟨Y ⊕ W,.cons e l st (fun y=>K e (next y) (st y)) o⟩
  |none=>none
 |_=>none
theorem outs_spec {K:Exit→HT V→St→Prop}:∀{ht:HT V}{r:(W:Type)×Outs W},outsOf K ht=some r→∀v e s,r.2.leaf v e s→∃l s' ht',preps l s=s'∧K e ht' s'
 |.out Y e l st next rest,r,h,v,e',s,hv=>by
  have one:∀y,Lv e' e (preps l s) (st y) (K e (next y) (st y))→∃l s' ht',preps l s=s'∧K e' ht' s':=by
   rintro y ⟨⟨rfl,h1⟩,h2⟩
   exact⟨l,st y,next y,h1,h2⟩
  unfold outsOf at h
  split at h
  ·cases h;rename_i heq;cases heq;exact one v hv
  ·rename_i heq
   cases heq
   split at h
   ·rename_i W o ho
    cases h
    cases v with
    |inl y=>exact one y hv
    |inr v=>exact outs_spec ho v e' s hv
   ·cases h
  ·cases h
 |.nil,r,h,_,_,_,_=>by simp[outsOf] at h
 |.op _ _ _ _,r,h,_,_,_,_=>by simp[outsOf] at h
 |.bo _ _ _ _,r,h,_,_,_,_=>by simp[outsOf] at h
 |.both _ _ _,r,h,_,_,_,_=>by simp[outsOf] at h
 |.reg _ _ _ _,r,h,_,_,_,_=>by simp[outsOf] at h
 |.rw _ _ _,r,h,_,_,_,_=>by simp[outsOf] at h
 |.rwS _ _ _,r,h,_,_,_,_=>by simp[outsOf] at h
 |.or _ _,r,h,_,_,_,_=>by simp[outsOf] at h
 |.ex _ _,r,h,_,_,_,_=>by simp[outsOf] at h
 |.loop _ _,r,h,_,_,_,_=>by simp[outsOf] at h
 |.ret _ _,r,h,_,_,_,_=>by simp[outsOf] at h
 |.round _,r,h,_,_,_,_=>by simp[outsOf] at h
 |.fin _ _ _,r,h,_,_,_,_=>by simp[outsOf] at h
 |.jn _ _ _ _ _ _,r,h,_,_,_,_=>by simp[outsOf] at h
 |.opA _ _ _ _ _ _ _ _ _,r,h,_,_,_,_=>by simp[outsOf] at h
def takeBoth (c:Operand):HT V→Option (HT V×HT V)
 |.both t x y=>match c with | .tmp u=>if u==t then some (x,y) else none|_=>none
 |_=>none
def regOk (P:Program)(ops:List Oper)(D:List Nat)(rs:List Rec):Bool:=
 mixedB P&&lexOk ops 0 ops&&pairsOk ops rs&&(news rs).all fun i=>D.contains i
def runT (P:Program)(n:Nat):Nat→Code→HT V→(Exit→HT V→St→Prop)→St→Prop
 |_,.skip,ht,K,s=>K .normal ht s
 |_,.exit id,ht,K,s=>K (.exit id) ht s
 |_,.ret,ht,K,s=>K .ret ht s
 |pos,.seq x y,ht,K,s=>admN pos ht s fun ht s=>runT P n (2*pos) x ht (fun e ht' s'=>match e with
   |.normal=>runT P n (2*pos+1) y ht' K s'
   |e=>K e ht' s') s
 |pos,.block id c,ht,K,s=>admN pos ht s fun ht s=>runT P n (2*pos) c ht (fun e ht' s'=>match e with | .exit id'=>if id'=id then K .normal ht' s' else K (.exit id') ht' s' | e=>K e ht' s') s
 |pos,.cond c x y,ht,K,s=>admN pos ht s fun ht s=>match ev s c with
  |.t (.v (.bool β))=>match takeBoth c ht with
   |some (hx,hy)=>(β=true∧runT P n (2*pos) x hx K s)∨(β=false∧runT P n (2*pos+1) y hy K s)
   |none=>match β with
    |true=>runT P n (2*pos) x ht K s
    |false=>runT P n (2*pos+1) y ht K s
  |_=>False
 |pos,.region id ops false,ht,K,s=>admN pos ht s fun ht s=>
   opsT P n id ops.toList (List.range ops.toList.length) (takeR id ht).2.2 (fun ht s=>K .normal ht s) (preps (takeR id ht).1 s)
 |pos,.region id ops true,ht,K,s=>admN pos ht s fun ht s=>
   opsR P n id ops.toList (List.range ops.toList.length) [] (takeR id ht).2.2 (fun rs ht' s'=>match regOk P ops.toList (dsts ops.toList++(takeR id ht).2.1) rs with
    |true=>K .normal ht' s'
    |false=>False) ((preps (takeR id ht).1 s).clean (dsts ops.toList++(takeR id ht).2.1))
 |pos,.loop c,ht,K,s=>admN pos ht s fun ht s=>match ht with
  |.loop l outs=>match outsOf K outs with
   |some ⟨_,o⟩=>LW P n c o.K (preps l s)
   |none=>False
  |_=>False
 |pos,.rangeFunc g ps as c,ht,K,s=>admN pos ht s fun ht s=>match ht with
  |.loop l outs=>match outsOf K outs with
   |some ⟨_,o⟩=>W P n (.rangeFunc g ps as c) o.K (preps l s)
   |none=>False
  |_=>False
 |_,_,_,_,_=>False
theorem Qa0:∀(pos:Nat)(c:Code)(ht:HT V)(K:Exit→HT V→St→Prop)(s:St),runT P n pos c ht K s→W P n c (fun e s'=>∃ht',K e ht' s') s
 |pos,.skip,ht,K,s,h=>W_skip ⟨ht,h⟩
 |pos,.exit id,ht,K,s,h=>W_exit ⟨ht,h⟩
 |pos,.ret,ht,K,s,h=>W_ret ⟨ht,h⟩
 |pos,.seq x y,ht,K,s,h=>by
  simp only[runT] at h
  obtain⟨ht,s,h,hback⟩:=Qcd _ _ _ _ h
  refine hback _ _ _ _ ?_
  refine W_seq (W_mono (Qa0 _ x ht _ s h) ?_)
  rintro e s' ⟨ht',h1⟩
  cases e with
  |normal=>exact Qa0 _ y _ K _ h1
  |exit id=>exact⟨ht',h1⟩
  |goto l=>exact⟨ht',h1⟩
  |ret=>exact⟨ht',h1⟩
  |panic ch=>exact⟨ht',h1⟩
  |outgrown=>exact⟨ht',h1⟩
 |pos,.block id c,ht,K,s,h=>by
  simp only[runT] at h
  obtain⟨ht,s,h,hback⟩:=Qcd _ _ _ _ h
  refine hback _ _ _ _ ?_
  refine W_block (W_mono (Qa0 _ c _ _ _ h) ?_)
  rintro e s' ⟨ht',h1⟩
  cases e with
  |exit id'=>
   simp only[W.inBlock] at h1 ⊢
   split at h1
   ·rename_i h2;rw[if_pos h2];exact⟨ht',h1⟩
   ·rename_i h2;rw[if_neg h2];exact⟨ht',h1⟩
  |normal=>exact⟨ht',h1⟩
  |goto l=>exact⟨ht',h1⟩
  |ret=>exact⟨ht',h1⟩
  |panic ch=>exact⟨ht',h1⟩
  |outgrown=>exact⟨ht',h1⟩
 |pos,.cond c x y,ht,K,s,h=>by
  simp only[runT] at h
  obtain⟨ht1,s,h,hback⟩:=Qcd _ _ _ _ h
  refine hback _ _ _ _ ?_
  split at h
  ·rename_i β he
   split at h
   ·rename_i hx hy _
    rcases h with⟨h1,h⟩|⟨h1,h⟩
    ·exact W_cond he h1 (Qa0 _ x hx K s h)
    ·exact W_cond he h1 (Qa0 _ y hy K s h)
   ·cases β with
    |true=>exact W_cond (t:=true) he rfl (Qa0 _ x _ K s h)
    |false=>exact W_cond (t:=false) he rfl (Qa0 _ y _ K s h)
  ·exact h.elim
 |pos,.region id ops false,ht,K,s,h=>by
  simp only[runT] at h
  obtain⟨ht1,s,h,hback⟩:=Qcd _ _ _ _ h
  refine hback _ _ _ _ ?_
  refine W_preps (takeR id ht1).1 ?_
  intro B hB a w ρ hrel
  subst hB
  exact wpIn_region (Qb7 _ _ hrel (by simpa using h) fun ht' s' a' w' ρ' h1 h2=>⟨B,s',ρ',⟨ht',h1⟩,Ext.refl B,h2⟩)
 |pos,.region id ops true,ht,K,s,h=>by
  simp only[runT] at h
  obtain⟨ht1,s,h,hback⟩:=Qcd _ _ _ _ h
  refine hback _ _ _ _ ?_
  obtain⟨hs,rs,s',ht',hr,hp,hk⟩:=opsR_lin _ _ _ _ List.nodup_range h
  simp only[List.reverse_nil,List.nil_append] at hk
  split at hk
  ·rename_i hc
   simp only[regOk,Bool.and_eq_true] at hc
   obtain⟨⟨⟨hm,hlex⟩,hok⟩,hnew⟩:=hc
   refine W_preps (takeR id ht1).1 ?_
   intro B hB a w ρ hrel
   subst hB
   have hrel1:=(hrel.drewN 1).clean (dsts ops.toList++(takeR id ht1).2.1)
   refine wpIn_region_any hm (any_order (P:=P) (B:=B) (hs:=hs) hlex ops.size (Array.replicate ops.size false) (List.range ops.toList.length) _ rs s' a _ ρ (by simp) List.nodup_range (fun i => ?_) (by simp) List.pairwise_lt_range (fun i hi=>by simp[Array.getD] at hi) hr hok ?_ hp hrel1 fun a' w' ρ' h'=>⟨B,s',ρ',⟨_,hk⟩,Ext.refl B,h'⟩)
   ·simp only[List.mem_range,Array.length_toList]
    constructor
    ·intro hi;exact⟨hi,by simp[Array.getD,hi]⟩
    ·intro hi;exact hi.1
   ·exact(clean_fresh _).sub fun i hi=>by have:=List.all_eq_true.1 hnew i hi;simpa using this
  ·exact hk.elim
 |pos,.loop c,ht,K,s,h=>by
  simp only[runT] at h
  obtain⟨ht1,s,h,hback⟩:=Qcd _ _ _ _ h
  refine hback _ _ _ _ ?_
  split at h
  ·rename_i l outs
   split at h
   ·rename_i W o ho
    refine W_preps l ?_
    intro B hB a w ρ hr
    refine wpIn_mono (W_loop h B hB a w ρ hr) ?_
    rintro e' a' w' ⟨B',s',ρ',⟨v,hv⟩,hx,h2⟩
    obtain⟨l',s2,ht',rfl,h3⟩:=outs_spec ho v e' s' hv
    obtain⟨σ,h4⟩:=h2.preps l'
    exact⟨B',_,σ,⟨ht',h3⟩,hx,h4⟩
   ·exact h.elim
  ·exact h.elim
 |pos,.rangeFunc g ps as c,ht,K,s,h=>by
  simp only[runT] at h
  obtain⟨ht1,s,h,hback⟩:=Qcd _ _ _ _ h
  refine hback _ _ _ _ ?_
  split at h
  ·rename_i l outs
   split at h
   ·rename_i _ o ho
    refine W_preps l ?_
    intro B hB a w ρ hr
    refine wpIn_mono (h B hB a w ρ hr) ?_
    rintro e' a' w' ⟨B',s',ρ',⟨v,hv⟩,hx,h2⟩
    obtain⟨l',s2,ht',rfl,h3⟩:=outs_spec ho v e' s' hv
    obtain⟨σ,h4⟩:=h2.preps l'
    exact⟨B',_,σ,⟨ht',h3⟩,hx,h4⟩
   ·exact h.elim
  ·exact h.elim
 |pos,.scope _,ht,K,s,h=>by simp only[runT] at h
 |pos,.label _,ht,K,s,h=>by simp only[runT] at h
 |pos,.goto _,ht,K,s,h=>by simp only[runT] at h
 |pos,.refuse _,ht,K,s,h=>by simp only[runT] at h
inductive Rets:Type→Type 1
 |one {Y:Type} (r:Y→A) (o:Y→List (Nat×O)) (Q:Y→Prop):Rets Y
 |cons {Y R:Type} (r:Y→A) (o:Y→List (Nat×O)) (Q:Y→Prop) (rest:Rets R):Rets (Y ⊕ R)
def Rets.leaf:{V:Type}→Rets V→V→A→List (Nat×O)→Prop
 |_,.one r o Q,y,x,os=>Lv x (r y) os (o y) (Q y)
 |_,.cons r o Q _,.inl y,x,os=>Lv x (r y) os (o y) (Q y)
 |_,.cons _ _ _ rest,.inr v,x,os=>rest.leaf v x os
def Rets.R {V:Type}(rs:Rets V):A→List (Nat×O)→Prop:=fun x os=>∃v,rs.leaf v x os
def retT (P:Program)(res:List ResultVar)(ids:List Nat)(rs:Rets V)(e:Exit)(ht:HT V)(s:St):Prop:=
 match e with
 |.normal | .ret=>adm ht s fun ht s=>match ht with
  |.fin l nl v=>match resA P (preps l s) res with
   |some x=>match (roA (gone (preps l s) ids) (oneOr x)).only ids with
    |true=>rs.leaf v (A.nils nl (roA (gone (preps l s) ids) (oneOr x))) (pickOs (preps l s).objs ids)
    |false=>False
   |none=>False
  |_=>False
 |_=>False
theorem retT_spec {res:List ResultVar}{ids:List Nat}{rs:Rets V}{e:Exit}{ht:HT V}{s:St}(h:retT P res ids rs e ht s):∃l,retK P res ids (fun x o=>∃nl,rs.R (A.nils nl x) o) e (preps l s):=by
 unfold retT at h
 have fin:(adm ht s fun ht s=>match ht with
  |.fin l nl v=>match resA P (preps l s) res with
   |some x=>match (roA (gone (preps l s) ids) (oneOr x)).only ids with
    |true=>rs.leaf v (A.nils nl (roA (gone (preps l s) ids) (oneOr x))) (pickOs (preps l s).objs ids)
    |false=>False
   |none=>False
  |_=>False)→∃l,(match resA P (preps l s) res with
  |some l'=>match (roA (gone (preps l s) ids) (oneOr l')).only ids with
   |true=>∃nl,rs.R (A.nils nl (roA (gone (preps l s) ids) (oneOr l'))) (pickOs (preps l s).objs ids)
   |false=>False
  |none=>False):=by
  intro h
  obtain⟨ht',h⟩:=Qbk _ _ _ h
  split at h
  ·rename_i l nl v
   refine⟨l,?_⟩
   split at h
   ·rename_i x hx
    split at h
    ·exact⟨nl,v,h⟩
    ·exact h.elim
   ·exact h.elim
  ·exact h.elim
 unfold retK
 cases e with
 |normal=>exact fin h
 |ret=>exact fin h
 |_=>exact h.elim
theorem Con.nils {f:FuncId}{xs:List A}{os:List (Nat×O)}{R:A→List (Nat×O)→Prop}(h:Con P f xs os (fun x o=>∃nl,R (A.nils nl x) o)):Con P f xs os R:=
 ⟨h.enter,fun hid ρ w us hh hr=>(h.out hid ρ w us hh hr).mono fun _ _ ⟨r,os',σ,u,⟨nl,h1⟩,h2,h3,h4,h5⟩=>⟨A.nils nl r,os',σ,u,h1,h2,h3,Qeg nl r u h4,h5⟩⟩
theorem W_end {c:Code}{K:Exit→St→Prop}(h:W P n c (fun e s=>∃l,K e (preps l s)) s):W P n c K s:=by
 intro B hB a w ρ hr
 refine wpIn_mono (h B hB a w ρ hr) ?_
 rintro e a' w' ⟨B',s',ρ',⟨l,h1⟩,hx,h2⟩
 obtain⟨σ,h3⟩:=h2.preps l
 exact⟨B',_,σ,h1,hx,h3⟩
theorem Con_runT {f:FuncId}{fn:Func}{xs:List A}{os:List (Nat×O)}(hent:Enter P f) (hf:P.funcs[f]? = some fn) (ids:List Nat) (ht:HT V) (rs:Rets V)
  (hok:(fn.body.isSome&&cellsOk P fn.results.toList&&decide (xs.length≤fn.ntmps))=true) {p:Prop} (hp:p)
  (h:p=runT P fn.ntmps 1 (bodyOf fn) ht (retT P fn.results.toList ids rs) (st0 xs os)):Con P f xs os rs.R:=by
 simp only[Bool.and_eq_true,decide_eq_true_eq] at hok
 obtain⟨⟨h1,h2⟩,h3⟩:=hok
 obtain⟨c,hc⟩:=Option.isSome_iff_exists.1 h1
 have hb:bodyOf fn=c:=by unfold bodyOf;rw[hc];rfl
 rw[hb] at h
 exact Con.nils (Con_of_W fn.results.toList ids hent hf hc (by simp) h2 rfl h3 (W_end (W_mono (Qa0 _ c ht _ _ (h ▸ hp)) fun e s ⟨_,h4⟩=>retT_spec h4)))
theorem Qaa {f:FuncId}{fn:Func}{xs:List A}{os:List (Nat×O)}{R:V→A}{S:V→List (Nat×O)}{v:V}(hent:Enter P f) (hf:P.funcs[f]? = some fn) (ids:List Nat) (ht:HT V){p:Prop}(hp:p)
  (hok:(fn.body.isSome&&cellsOk P fn.results.toList&&decide (xs.length≤fn.ntmps))=true:=by kernel_rfl)
  (h:p=runT P fn.ntmps 1 (bodyOf fn) ht (retT P fn.results.toList ids (.one R S (fun v_=>v_=v))) (st0 xs os):=by kernel_rfl):Con P f xs os (fun r_ o_=>r_=R v∧o_=S v):=
 (Con_runT hent hf ids ht (.one R S (fun v_=>v_=v)) hok hp h).mono fun _ _ ⟨v_,hv_⟩=>by obtain⟨⟨h1,h2⟩,rfl⟩:=hv_;exact⟨h1,h2⟩
def roundT {V:Type}(P:Program)(n:Nat)(c:Code)(o:Outs V)(e:Exit)(ht:HT V)(s:St):Prop:=
 adm ht s fun ht s=>match ht with
  |.round l=>match e with
   |.normal=>LW P n c o.K (preps l s)
   |_=>False
  |.ret l v=>match e with
   |.normal=>False
   |e=>o.leaf v e (preps l s)
  |_=>False
theorem Qac {c:Code}(o:Outs V) (ht:HT V){p:Prop}(hp:p) (h:p=runT P n 1 c ht (roundT P n c o) s):LW P n c o.K s:=by
 refine LW_round (W_end (W_mono (Qa0 _ c ht _ _ (h ▸ hp)) ?_))
 rintro e s' ⟨ht',h1⟩
 unfold roundT at h1
 obtain⟨ht2,h1⟩:=Qbk _ _ _ h1
 split at h1
 ·rename_i l
  refine⟨l,?_⟩
  cases e with
  |normal=>exact h1
  |_=>exact h1.elim
 ·rename_i l v
  refine⟨l,?_⟩
  cases e with
  |normal=>exact h1.elim
  |_=>exact⟨v,h1⟩
 ·exact h1.elim
end Go.Ab
