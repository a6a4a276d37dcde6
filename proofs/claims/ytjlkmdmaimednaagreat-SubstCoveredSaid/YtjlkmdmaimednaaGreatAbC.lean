import Derived.Test.YtjlkmdmaimednaaGreatAbB
set_option linter.unusedVariables false
set_option linter.unusedSimpArgs false
namespace Go.Ab
def AllP:List Prop→Prop
 |[]=>True
 |[p]=>p
 |p::l=>p∧AllP l
inductive Hint where
 |no
 |nw
 |row (n:Nat) (r:List T)
 |ix (n:Nat)
 |cut (l h:Nat)
 |dir (b:Bool)
 |id (j:Nat)
 |call (ids:List Nat) (r:A) (os:List (Nat×O))
 |ro (r:A)
 |got (r:Option (Nat×Ent))
 |ent (e:Ent)
 |fz
 |nilv (l:List (List Nat×Nat))
 |callN (nl:List (List Nat×Nat)) (ids:List Nat) (r:A) (os:List (Nat×O))
 |roN (nl:List (List Nat×Nat)) (r:A)
 |callR (nl:List (List Nat×Nat)) (ids ro:List Nat) (r:A) (os:List (Nat×O))
 |look (row:List T) (b:Bool)
 |putM (clock:Nat) (es:List Ent)
 |delM (es:List Ent)
 |entM (row:List T) (st clock:Nat) (es:List Ent)
 |entS (clock:Nat) (es:List Ent)
def modL (f:A→A):Nat→List A→List A
 |_,[]=>[]
 |0,x::xs=>f x::xs
 |j+1,x::xs=>x::modL f j xs
def A.nilAt (m:Nat):List Nat→A→A
 |[],x=>match x with | .t (.v (.slice none 0 0)) => .t (.sl m [])|x=>x
 |j::p,x=>match x with | .agg xs => .agg (modL (A.nilAt m p) j xs) | .tup xs => .tup (modL (A.nilAt m p) j xs)|x=>x
def A.nils:List (List Nat×Nat)→A→A
 |[],x=>x
 |(p,m)::l,x=>A.nils l (A.nilAt m p x)
def nilArgs (l:List (List Nat×Nat))(xs:List A):List A:=match A.nils l (.tup xs) with | .tup ys=>ys|_=>xs
theorem Qfd {ρ:Nat→Value}{C:View}{f:A→A}(hf:∀x u,relA ρ C x u→relA ρ C (f x) u):∀(j:Nat)(xs:List A)(us:List Value),relAs ρ C xs us→relAs ρ C (modL f j xs) us
 |_,[],us,h=>by cases ‹Nat›<;>simpa only[modL] using h
 |0,x::xs,us,h=>by
  simp only[modL,relAs] at h ⊢
  obtain⟨u,us',rfl,h1,h2⟩:=h
  exact⟨u,us',rfl,hf x u h1,h2⟩
 |j+1,x::xs,us,h=>by
  simp only[modL,relAs] at h ⊢
  obtain⟨u,us',rfl,h1,h2⟩:=h
  exact⟨u,us',rfl,h1,Qfd hf j xs us' h2⟩
theorem Qfe {ρ:Nat→Value}{C:View}{m:Nat}:∀(p:List Nat)(x:A)(u:Value),relA ρ C x u→relA ρ C (A.nilAt m p x) u
 |[],x,u,h=>by
  simp only[A.nilAt]
  split
  ·simp only[relA,rep] at h ⊢;exact .inl ⟨trivial,.inl h⟩
  ·exact h
 |j::p,x,u,h=>by
  simp only[A.nilAt]
  split
  ·simp only[relA] at h ⊢;obtain⟨cs,h1,h2⟩:=h;exact⟨cs,h1,Qfd (fun x u=>Qfe p x u) j _ _ h2⟩
  ·simp only[relA] at h ⊢;obtain⟨cs,h1,h2⟩:=h;exact⟨cs,h1,Qfd (fun x u=>Qfe p x u) j _ _ h2⟩
  ·exact h
theorem Qeg {ρ:Nat→Value}{C:View}:∀(l:List (List Nat×Nat)) (x:A) (u:Value),relA ρ C x u→relA ρ C (A.nils l x) u
 |[],x,u,h=>h
 |(p,m)::l,x,u,h=>Qeg l _ u (Qfe p x u h)
theorem Qeh {ρ:Nat→Value}{C:View}(l:List (List Nat×Nat)){xs:List A}{us:List Value}(h:relAs ρ C xs us):relAs ρ C (nilArgs l xs) us:=by
 unfold nilArgs
 have h1:=Qeg (ρ:=ρ) (C:=C) l (.tup xs) (.tuple us.toArray) (by simp only[relA];exact⟨_,rfl,by simpa using h⟩)
 split
 ·rename_i ys he
  rw[he] at h1;simp only[relA] at h1
  obtain⟨cs,h2,h3⟩:=h1
  cases h2;simpa using h3
 ·exact h
def ofVal1:Value→A
 |.agg cs => .agg (cs.toList.map fun c => .t (.v c))
 |u => .t (.v u)
def ofVal:Value→A
 |.tuple cs => .tup (cs.toList.map ofVal1)
 |u=>ofVal1 u
theorem Qgd {ρ:Nat→Value}{C:View}:∀(us:List Value),relAs ρ C (us.map fun c => .t (.v c)) us
 |[]=>by simp[relAs]
 |u::us=>by simp only[List.map_cons,relAs];exact⟨u,us,rfl,by simp[relA,rep],Qgd us⟩
theorem Qa7 {ρ:Nat→Value}{C:View}(u:Value):relA ρ C (ofVal1 u) u:=by
 unfold ofVal1;split
 ·simp only[relA];exact⟨_,rfl,Qgd _⟩
 ·simp[relA,rep]
theorem Qfy {ρ:Nat→Value}{C:View}:∀(us:List Value),relAs ρ C (us.map ofVal1) us
 |[]=>by simp[relAs]
 |u::us=>by simp only[List.map_cons,relAs];exact⟨u,us,rfl,Qa7 u,Qfy us⟩
theorem relA_ofVal {ρ:Nat→Value}{C:View}(u:Value):relA ρ C (ofVal u) u:=by
 unfold ofVal;split
 ·simp only[relA];exact⟨_,rfl,Qfy _⟩
 ·exact Qa7 u
def ev (s:St):Operand→A
 |.tmp t=>s.slots t
 |.const v=>ofVal v
 |.global _ => .dead
 |.func f => .fn f []
theorem Rel.opd {B:Base}{s:St}{a:Act}{w:World}{ρ:Nat→Value}(h:Rel B s a w ρ) (x:Operand):relA ρ (view B.hid (own ρ s.objs) w) (ev s x) (a.eval x):=by
 cases x with
 |tmp t=>exact h.slots t
 |const v=>exact relA_ofVal v
 |global g=>simp only[ev,relA]
 |func f=>simp only[ev,Act.eval,relA];exact⟨#[],rfl,by simp[relAs]⟩
mutual
def A.val? : A→Option Value
 |.t (.v x)=>some x
 |.agg xs=>(A.valL xs).map fun l => .agg l.toArray
 |.tup xs=>(A.valL xs).map fun l => .tuple l.toArray
 |_=>none
def A.valL:List A→Option (List Value)
 |[]=>some []
 |x::xs=>match A.val? x,A.valL xs with
  |some u,some l=>some (u::l)
  |_,_=>none
end
mutual
theorem val?_eq {ρ:Nat→Value}{C:View}:∀(x:A)(u v:Value),x.val? = some v→relA ρ C x u→u=v
 |.dead,_,_,h,_=>by simp[A.val?] at h
 |.t (.v y),u,v,h,hr=>by simp[A.val?] at h;simp only[relA,rep] at hr;rw[hr,h]
 |.t (.sl _ _),_,_,h,_=>by simp[A.val?] at h
 |.t (.sn _ _),_,_,h,_=>by simp[A.val?] at h
 |.t (.pt _),_,_,h,_=>by simp[A.val?] at h
 |.agg xs,u,v,h,hr=>by
  simp only[A.val?,Option.map_eq_some_iff] at h
  obtain⟨l,h1,rfl⟩:=h
  simp only[relA] at hr
  obtain⟨cs,rfl,h2⟩:=hr
  rw[←valL_eq xs _ l h1 h2]
 |.tup xs,u,v,h,hr=>by
  simp only[A.val?,Option.map_eq_some_iff] at h
  obtain⟨l,h1,rfl⟩:=h
  simp only[relA] at hr
  obtain⟨cs,rfl,h2⟩:=hr
  rw[←valL_eq xs _ l h1 h2]
 |.ref _,_,_,h,_=>by simp[A.val?] at h
 |.at _ _,_,_,h,_=>by simp[A.val?] at h
 |.elt _ _ _ _,_,_,h,_=>by simp[A.val?] at h
 |.fn _ _,_,_,h,_=>by simp[A.val?] at h
theorem valL_eq {ρ:Nat→Value}{C:View}:∀(xs:List A)(us l:List Value),A.valL xs=some l→relAs ρ C xs us→us=l
 |[],us,l,h,hr=>by simp[A.valL] at h;simp only[relAs] at hr;rw[hr,h]
 |x::xs,us,l,h,hr=>by
  simp only[relAs] at hr
  obtain⟨u,us',rfl,h1,h2⟩:=hr
  simp only[A.valL] at h
  split at h
  ·rename_i v l' hv hl
   cases h
   rw[val?_eq x u v hv h1,valL_eq xs us' l' hl h2]
  ·cases h
end
def still (P:Program){α:Type}:Sem α→Option α
 |.pure a=>some a
 |.program k=>still P (k P)
 |.mark _ k=>still P k
 |_=>none
theorem Qdg {P:Program}{α:Type}:∀(x:Sem α)(a:α)(w:World),still P x=some a→x.run P w = .ok a w
 |.pure a,b,w,h=>by simp[still] at h;subst h;rfl
 |.program k,b,w,h=>by simp only[still] at h;simp only[Sem.run];exact Qdg _ _ w h
 |.mark m k,b,w,h=>by simp only[still] at h;simp only[Sem.run];exact Qdg _ _ w h
 |.load ..,_,_,h | .store ..,_,_,h | .new ..,_,_,h | .shape ..,_,_,h | .freeze ..,_,_,h | .frozen ..,_,_,h | .getObj ..,_,_,h | .setObj ..,_,_,h
 |.choose ..,_,_,h | .sys ..,_,_,h | .halt _,_,_,h=>by simp[still] at h
def notSelect:Op→Bool
 |.select .. => false
 |_=>true
def vals (s:St)(xs:List Operand):Bool:=xs.all fun x=>(ev s x).val?.isSome
def evV (s:St)(x:Operand):Value:=((ev s x).val?).getD undef
def vStill (P:Program)(o:Oper)(s:St):Option (List Prop×A):=
 if vals s o.op.operands.toList&&notSelect o.op then
  match still P (execOp (evV s) o) with
  |some (.value u)=>some ([],ofVal u)
  |_=>none
 else none
def sizeT (P:Program)(t:TypeId):Nat:=match P.info? t with|some i=>i.size|none=>0
def aggT (P:Program)(t:TypeId):Bool:=match P.underlying t with|some (.struct _)|some (.array ..)=>true|_=>false
def pick (P:Program)(t:TypeId)(xs:List A):Option A:=
 if aggT P t then
  if (xs.take (sizeT P t)).length==sizeT P t then some (.agg (xs.take (sizeT P t))) else none
 else xs.head?
def ts (r:List T):List A:=r.map .t
def vLoad (P:Program)(t:TypeId)(x:Operand)(h:Hint)(s:St):Option (List Prop×A):=
 match ev s x with
 |.at i off=>match s.objs i with
  |some (.box xs)=>(pick P t (xs.drop off)).map fun y=>([],y)
  |_=>none
 |.elt i k m off=>match s.objs i,h with
  |some (.row m' rows),.row _ r=>if m==m' then(pick P t ((ts r).drop off)).map fun y=>([rows[k]? = some r],y) else none
  |_,_=>none
 |.t (.pt cs)=>(pick P t (ts cs)).map fun y=>([],y)
 |_=>none
def fieldT (P:Program)(t:TypeId)(f:Nat):Option Field:=match P.underlying t with|some (.struct fs)=>fs[f]? | _=>none
def vFieldAddr (P:Program)(t:TypeId)(x:Operand)(f:Nat)(s:St):Option (List Prop×A):=
 match fieldT P t f with
 |some fd=>if sizeT P fd.type==0 then none else
  match ev s x with
  |.at i off=>some ([],.at i (off+fd.offset))
  |.elt i k m off=>some ([],.elt i k m (off+fd.offset))
  |.t (.pt cs)=>some ([],.t (.pt (cs.drop fd.offset)))
  |_=>none
 |none=>none
def vField (P:Program)(t:TypeId)(x:Operand)(f:Nat)(s:St):Option (List Prop×A):=
 match fieldT P t f,ev s x with
 |some fd,.agg xs=>(pick P fd.type (xs.drop fd.offset)).map fun y=>([],y)
 |_,_=>none
def elemSize (P:Program)(t:TypeId):Option Nat:=match P.underlying t with|some (.slice e)=>(P.info? e).map (·.size)|_=>none
def vIndexAddr (P:Program)(t:TypeId)(x ix:Operand)(h:Hint)(s:St):Option (List Prop×A):=
 match elemSize P t,ev s ix with
 |some m,.t (.v (.int _ i))=>match ev s x,h with
  |.t (.sl m' rows),.row n r=>if m==m' then some ([i=(n:Int)∧rows[n]? = some r],.t (.pt r)) else none
  |.ref j,.ix n=>match s.objs j with
   |some (.row m' rows)=>if m==m' then some ([i=(n:Int)∧n<rows.length],.elt j n m 0) else none
   |_=>none
  |_,_=>none
 |_,_=>none
def vIndex (P:Program)(t:TypeId)(x ix:Operand)(h:Hint)(s:St):Option (List Prop×A):=
 match P.underlying t,ev s x,ev s ix,h with
 |some .string,.t (.v (.string b)),.t (.v (.int _ i)),.row n [.v (.int .u8 c)]=>some ([i=(n:Int)∧(b.data[n]?).map (fun u=>(u.toNat:Int))=some c],.t (.v (.int .u8 c)))
 |_,_,_,_=>none
def vExtract (x:Operand)(i:Nat)(s:St):Option (List Prop×A):=
 match ev s x with
 |.tup xs=>(xs[i]?).map fun y=>([],y)
 |_=>none
def vNilCheck (x:Operand)(s:St):Option (List Prop×A):=
 match ev s x with
 |.at i o=>some ([],.at i o)
 |.elt i k m o=>some ([],.elt i k m o)
 |.t (.pt cs)=>some ([],.t (.pt cs))
 |.fn f cap=>some ([],.fn f cap)
 |_=>none
def vSlice (P:Program)(t:TypeId)(x:Operand)(lo hi:Option Operand)(h:Hint)(s:St):Option (List Prop×A):=
 match P.underlying t,ev s x,h with
 |some (.slice e),.t (.sl m rows),.cut l u=>
  if sizeT P e==m&&(P.info? e).isSome then
   match lo.map (ev s),hi.map (ev s) with
   |none,none=>some ([l=0∧u=rows.length],.t (.sl m rows))
   |some (.t (.v (.int _ i))),none=>some ([i=(l:Int)∧u=rows.length∧l≤u],.t (.sl m (rows.drop l)))
   |none,some (.t (.v (.int _ j)))=>some ([l=0∧j=(u:Int)∧u≤rows.length],.t (.sl m (rows.take u)))
   |some (.t (.v (.int _ i))),some (.t (.v (.int _ j)))=>some ([i=(l:Int)∧j=(u:Int)∧l≤u∧u≤rows.length],.t (.sl m ((rows.take u).drop l)))
   |_,_=>none
  else none
 |some (.slice e),.ref j,.cut l u=>match s.objs j,lo.map (ev s),hi with
  |some (.row m rows),some (.t (.v (.int _ i))),none=>if sizeT P e==m&&(P.info? e).isSome then some ([i=(l:Int)∧u=rows.length∧l≤u],.dead) else none
  |_,_,_=>none
 |some .string,.t (.v (.string b)),.cut l u=>
  match lo.map (ev s),hi.map (ev s) with
  |some (.t (.v (.int _ i))),none=>some ([i=(l:Int)∧u=b.size∧l≤u],.t (.v (.string (b.extract l u))))
  |none,some (.t (.v (.int _ j)))=>some ([l=0∧j=(u:Int)∧u≤b.size],.t (.v (.string (b.extract l u))))
  |some (.t (.v (.int _ i))),some (.t (.v (.int _ j)))=>some ([i=(l:Int)∧j=(u:Int)∧l≤u∧u≤b.size],.t (.v (.string (b.extract l u))))
  |_,_=>none
 |_,_,_=>none
def vLen (P:Program)(t:TypeId)(x:Operand)(s:St):Option (List Prop×A):=
 match P.underlying t,ev s x with
 |some (.slice _),.t (.sl _ rows)=>some ([],.t (i64 rows.length))
 |some (.slice _),.t (.sn _ rows)=>some ([],.t (i64 rows.length))
 |some (.slice _),.ref j=>match s.objs j with
  |some (.row _ rows)=>some ([],.t (i64 rows.length))
  |_=>none
 |some (.slice _),.t (.v (.slice _ n _))=>some ([],.t (i64 n))
 |some .string,.t (.v (.string b))=>some ([],.t (i64 b.size))
 |_,_=>none
def vArith (op:BinOp)(x y:Operand)(h:Hint)(s:St):Option (List Prop×A):=
 match h,ev s x,ev s y with
 |.nw,.t (.v (.int k a)),.t (.v (.int k' b))=>
  if k==k' then
   match op with
   |.add=>some ([k.min≤a+b∧a+b≤k.max],.t (.v (.int k (a+b))))
   |.sub=>some ([k.min≤a-b∧a-b≤k.max],.t (.v (.int k (a-b))))
   |.mul=>some ([k.min≤a*b∧a*b≤k.max],.t (.v (.int k (a*b))))
   |.quo=>some ([0≤a∧0<b∧a≤k.max],.t (.v (.int k (a/b))))
   |.rem=>some ([0≤a∧0<b],.t (.v (.int k (a%b))))
   |_=>none
  else none
 |_,.t (.v (.int k a)),.t (.v (.int k' b))=>
  if k==k' then
   match op with
   |.quo=>some ([b≠0],.t (.v (.int k (k.wrap (a.tdiv b)))))
   |.rem=>some ([b≠0],.t (.v (.int k (a.tmod b))))
   |_=>none
  else none
 |_,_,_=>none
def vConv (P:Program)(src dst:TypeId)(x:Operand)(h:Hint)(s:St):Option (List Prop×A):=
 match h,ev s x,P.underlying src,P.underlying dst with
 |.nw,.t (.v (.int _ a)),some _,some (.int k)=>some ([k.min≤a∧a≤k.max],.t (.v (.int k a)))
 |_,_,_,_=>none
def vMinMax (mn:Bool)(xs:List Operand)(s:St):Option (List Prop×A):=
 match xs.map (ev s) with
 |[.t (.v (.int k a)),.t (.v (.int _ b))]=>some ([],.t (.v (.int k (if mn then min a b else max a b))))
 |_=>none
def orE (a b:Option (List Prop×A)):Option (List Prop×A):=match a with|some x=>some x|none=>b
def vMk (fn:Fn)(fs cs:List Operand)(s:St):Option (List Prop×A):=
 match fn,fs with
 |.func f,[]=>some ([],.fn f (cs.map (ev s)))
 |_,_=>none
end Go.Ab
