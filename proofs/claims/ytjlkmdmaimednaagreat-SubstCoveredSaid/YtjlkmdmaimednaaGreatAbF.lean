import Derived.Test.YtjlkmdmaimednaaGreatAbE
set_option linter.unusedVariables false
set_option linter.unusedSimpArgs false
namespace Go.Ab
def one (s:St):A→Bool
 |.t (.v u)=>u.oneCell'
 |.t _=>true
 |.ref i=>(s.objs i).isSome
 |.at _ _ | .elt _ _ _ _ | .fn _ _=>true
 |_=>false
def cells? (s:St):A→Option (List A)
 |.agg xs=>if xs.all (one s) then some xs else none
 |x=>if one s x then some [x] else none
def toT:A→Option T
 |.t x=>some x
 |_=>none
def toTs:List A→Option (List T)
 |[]=>some []
 |x::xs=>match toT x,toTs xs with|some t,some l=>some (t::l)|_,_=>none
def splice {α:Type}(off:Nat)(ys xs:List α):List α:=xs.take off++ys++xs.drop (off+ys.length)
def fillL {α:Type}(place:Nat→Option (Nat×Nat)):List α→List (Nat×List α)→Option (List α)
 |cells,[]=>some cells
 |cells,(i,vs)::rest=>
  match place i with
  |none=>none
  |some (off,size)=>if vs.length≠size∨off+vs.length>cells.length then none else fillL place (splice off vs cells) rest
def newId (h:Hint)(d:Nat):Nat:=match h with | .id j=>j|_=>d
def partsA (s:St):List (Nat×Operand)→Option (List (Nat×List A))
 |[]=>some []
 |(i,x)::ps=>match cells? s (ev s x),partsA s ps with|some l,some r=>some ((i,l)::r)|_,_=>none
def tv (u:Value):A := .t (.v u)
def vBuild (P:Program)(t:TypeId)(parts:List (Nat×Operand))(s:St):Option (List Prop×A):=
 match P.info? t,P.underlying t with
 |some it,some (.struct fields)=>
  match it.zero,fields.toList.mapM (fun f=>(P.info? f.type).map fun i=>(f.offset,i.size)),partsA s parts with
  |some z,some places,some ps=>(fillL (places.toArray[·]?) (z.cells.toList.map tv) ps).map fun l=>([],.agg l)
  |_,_,_=>none
 |_,_=>none
def idOk (s:St)(k:Nat):Bool := !(s.base.contains k)
def eBox (x:Operand)(dst:Option Tmp)(h:Hint)(s:St):Option (List Prop×St):=
 match dst,cells? s (ev s x) with
 |some d,some xs=>if idOk s (newId h d) then some ([],(s.mv none (newId h d) (.box (A.killL [newId h d] xs))).put d (.at (newId h d) 0)) else none
 |_,_=>none
def eAlloc (P:Program)(e:TypeId)(dst:Option Tmp)(h:Hint)(s:St):Option (List Prop×St):=
 match dst,P.info? e with
 |some d,some i=>match i.zero with
  |some z=>if idOk s (newId h d) then some ([],(s.mv none (newId h d) (.box (z.cells.toList.map tv))).put d (.at (newId h d) 0)) else none
  |none=>none
 |_,_=>none
def eStore (P:Program)(t:TypeId)(ad x:Operand)(h:Hint)(s:St):Option (List Prop×St):=
 match ev s ad,cells? s (ev s x) with
 |.at i off,some ys=>match s.objs i with
  |some (.box xs)=>if (P.info? t).isSome&&sizeT P t==ys.length&&decide (off+ys.length≤xs.length) then some ([],s.set i (.box (splice off ys xs))) else none
  |_=>none
 |.elt i k m off,some ys=>match s.objs i,h,toTs ys with
  |some (.row m' rows),.row _ r,some tsv=>if (P.info? t).isSome&&sizeT P t==ys.length&&decide (off+ys.length≤r.length)&&m==m' then some ([rows[k]? = some r],s.set i (.row m (rows.set k (splice off tsv r)))) else none
  |_,_,_=>none
 |_,_=>none
def chunk {α:Type}(m:Nat):Nat→List α→List (List α)
 |0,_=>[]
 |n+1,l=>l.take m::chunk m n (l.drop m)
def eBuildSlice (P:Program)(t:TypeId)(len:Nat)(parts:List (Nat×Operand))(dst:Option Tmp)(h:Hint)(s:St):Option (List Prop×St):=
 match dst,P.underlying t,partsA s parts with
 |some d,some (.slice e),some ps=>match P.info? e with
  |some i=>match i.zero,(fillL (fun j=>some (j*i.size,i.size)) (List.replicate (len*i.size) A.dead) ps).bind toTs with
   |some z,some l=>if idOk s (newId h d)&&decide (0<i.size)&&decide (len*i.size≤16777216)&&z.cells.toList.all (·.oneCell')&&z.cells.size==i.size then some ([],(s.mv none (newId h d) (.row i.size (chunk i.size len l))).put d (.ref (newId h d))) else none
   |_,_=>none
  |none=>none
 |_,_,_=>none
def eMake (P:Program)(t:TypeId)(ln cp:Operand)(dst:Option Tmp)(h:Hint)(j:Nat)(s:St):Option (List Prop×St):=
 match dst,P.underlying t,ev s ln,ev s cp,h with
 |some d,some (.slice e),.t (.v (.int _ a)),.t (.v (.int _ b)),.cut l c=>match P.info? e with
  |some i=>match i.zero with
   |some z=>if idOk s j&&z.cells.toList.length==i.size&&z.cells.toList.all (·.oneCell')&&decide (0<i.size) then
     some ([a=(l:Int)∧b=(c:Int)∧l≤c∧i.bytes*c≤281474976710656∧c≤maxLen],(s.mv none j (.row i.size (List.replicate l (z.cells.toList.map .v)))).put d (.ref j)) else none
   |none=>none
  |none=>none
 |_,_,_,_,_=>none
def rowsOf (s:St):A→Option (Option Nat×List (List T))
 |.ref j=>match s.objs j with|some (.row m rows)=>some (some m,rows)|_=>none
 |.t (.sl m rows)=>some (some m,rows)
 |.t (.sn m rows)=>some (some m,rows)
 |.t (.v (.slice none 0 0))=>some (none,[])
 |_=>none
def eAppend (P:Program)(t t2:TypeId)(sx x:Operand)(dst:Option Tmp)(h:Hint)(s:St):Option (List Prop×St):=
 match dst,P.underlying t with
 |some d,some (.slice e)=>match P.info? e,rowsOf s (ev s x) with
  |some i,some (m2,new)=>
   if t==t2&&i.zero.isSome&&decide (0<i.size)&&(m2==none||m2==some i.size)&&idOk s (newId h d) then
    match i.zero,ev s sx with
    |some z,.t (.v (.slice none 0 0))=>if z.cells.size==i.size then some ([new.length≤maxLen∧new.length*i.bytes≤140737488355328],(s.mv none (newId h d) (.row i.size new)).put d (.ref (newId h d))) else none
    |some z,.ref j=>match s.objs j with
     |some (.row m old)=>if z.cells.size==i.size&&m==i.size then some ([old.length+new.length≤maxLen∧(old.length+new.length)*i.bytes≤140737488355328],(s.mv (some j) (newId h d) (.row i.size (old++new))).put d (.ref (newId h d))) else none
     |_=>none
    |_,_=>none
   else none
  |_,_=>none
 |_,_=>none
variable {P:Program} {B:Base} {s:St} {a:Act} {w:World} {ρ:Nat→Value}
theorem one_spec (h:Rel B s a w ρ){x:A}{u:Value}{C:View}(hx:one s x=true) (hr:relA ρ C x u):u.oneCell'=true:=by
 unfold one at hx
 split at hx
 ·simp only[relA,rep] at hr;rw[hr];exact hx
 ·rename_i t ht
  simp only[relA] at hr
  cases t with
  |v u=>exact absurd rfl (ht u)
  |sl m rows=>simp only[rep] at hr;rcases hr with⟨_,rfl|⟨ad,cap,rfl,_⟩⟩|⟨b,off,cap,rfl,_⟩<;>rfl
  |sn m rows=>simp only[rep] at hr;rcases hr with⟨_,ad,cap,rfl,_⟩|⟨b,off,cap,rfl,_⟩<;>rfl
  |pt cells=>simp only[rep] at hr;obtain⟨b,off,rfl,_⟩:=hr;rfl
 ·rename_i i
  simp only[relA] at hr
  obtain⟨o,ho⟩:=Option.isSome_iff_exists.1 hx
  have:=h.heap.obj i o ho
  rw[hr]
  cases o with
  |box xs=>obtain⟨b,cur,e,h1,_⟩:=this;rw[h1];rfl
  |row m rows=>rcases this with⟨_,h1|⟨ad,h1⟩⟩|⟨b,cap,cur,e,h1,_⟩<;>(rw[h1];rfl)
  |map _ _ _=>obtain⟨r,ents,h1,_⟩:=this;rw[h1];rfl
  |iter _ _ _ _=>obtain⟨b,r,h1,_⟩:=this;rw[h1];rfl
  |junk=>obtain⟨b,r,h1,_⟩:=this;rw[h1];rfl
 ·simp only[relA] at hr;obtain⟨b,_,rfl⟩:=hr;rfl
 ·simp only[relA] at hr;obtain⟨b,n,cap,_,rfl⟩:=hr;rfl
 ·simp only[relA] at hr;obtain⟨cs,rfl,_⟩:=hr;rfl
 ·cases hx
theorem relAs_one (h:Rel B s a w ρ){C:View}:∀{xs:List A}{us:List Value},xs.all (one s)=true→relAs ρ C xs us→∀u∈us,u.oneCell'=true
 |[],us,_,hr=>by simp only[relAs] at hr;subst hr;simp
 |x::xs,us,hx,hr=>by
  simp only[relAs] at hr
  obtain⟨u,us',rfl,h1,h2⟩:=hr
  simp only[List.all_cons,Bool.and_eq_true] at hx
  intro v hv
  rcases List.mem_cons.1 hv with rfl|hv
  ·exact one_spec h hx.1 h1
  ·exact relAs_one h hx.2 h2 v hv
theorem cells_of_one {u:Value}(h:u.oneCell'=true):u.cells = #[u]:=by
 cases u<;>simp_all [Value.oneCell',Value.cells]
theorem Qc1 (h:Rel B s a w ρ){x:A}{u:Value}{C:View}{xs:List A}(hx:cells? s x=some xs) (hr:relA ρ C x u):
  relAs ρ C xs u.cells.toList∧∀c∈u.cells.toList,c.oneCell'=true:=by
 unfold cells? at hx
 split at hx
 ·rename_i ys
  split at hx
  ·rename_i ha
   cases hx
   simp only[relA] at hr
   obtain⟨cs,rfl,h1⟩:=hr
   exact⟨h1,relAs_one h ha h1⟩
  ·cases hx
 ·split at hx
  ·rename_i ho
   cases hx
   have h1:=one_spec h ho hr
   rw[cells_of_one h1]
   refine⟨?_,by simpa using h1⟩
   simp only[relAs]
   exact⟨u,[],rfl,hr,rfl⟩
  ·cases hx
theorem Qf1 {C:View}{xs ys:List A}{us vs:List Value}(off:Nat) (h:relAs ρ C xs us) (k:relAs ρ C ys vs):relAs ρ C (splice off ys xs) (splice off vs us):=by
 unfold splice
 rw[←Qaj k]
 exact Qbv (Qbv (Qfk h off) k) (Qcy h _)
theorem Qe5 {C:View}(place:Nat→Option (Nat×Nat)):∀(ps:List (Nat×List A)) (qs:List (Nat×List Value)) (xs zs:List A) (us:List Value),
  ps.map (·.1)=qs.map (·.1)→(∀(j:Nat) p q,ps[j]? = some p→qs[j]? = some q→relAs ρ C p.2 q.2)→relAs ρ C xs us→fillL place xs ps=some zs→∃vs,fillL place us qs=some vs∧relAs ρ C zs vs
 |[],qs,xs,zs,us,h1,_,h3,h4=>by
  have:qs=[]:=by simpa using h1.symm
  subst this
  simp only[fillL,Option.some.injEq] at h4 ⊢
  subst h4;exact⟨us,rfl,h3⟩
 |(i,vs)::ps,qs,xs,zs,us,h1,h2,h3,h4=>by
  match qs,h1,h2 with
  |(i',vs')::qs,h1,h2=>
   simp only[List.map_cons,List.cons.injEq] at h1
   obtain⟨rfl,h1⟩:=h1
   simp only[fillL] at h4 ⊢
   have hr:relAs ρ C vs vs':=h2 0 (i,vs) (i,vs') (by simp) (by simp)
   split at h4
   ·cases h4
   ·rename_i off size hp
    split at h4
    ·cases h4
    ·rename_i hc
     rw[if_neg (by rw[Qaj hr,Qaj h3];exact hc)]
     exact Qe5 place ps qs _ zs _ h1 (fun j p q hp hq=>h2 (j+1) p q (by simpa using hp) (by simpa using hq)) (Qf1 off h3 hr) h4
theorem Qf2 (off:Nat):∀(vs:List Value)(k:Nat)(cells:Array Value),off+k+vs.length≤cells.size→
  ((vs.zipIdx k).foldl (fun(cs:Array Value)(p:Value×Nat)=>cs.setIfInBounds (off+p.2) p.1) cells).toList=cells.toList.take (off+k)++vs++cells.toList.drop (off+k+vs.length)
 |[],k,cells,_=>by simp
 |v::vs,k,cells,h=>by
  simp only[List.zipIdx_cons,List.foldl_cons]
  rw[Qf2 off vs (k+1) _ (by simp at h ⊢;omega)]
  rw[Array.toList_setIfInBounds]
  have:=list_seg_step cells.toList (off+k) v vs (by simp at h ⊢;omega)
  simpa[Nat.add_assoc] using this
theorem Qdy (place:Nat→Option (Nat×Nat)):∀(ps:List (Nat×Value)) (cells:Array Value) (vs:List Value),fillL place cells.toList (ps.map fun p=>(p.1,p.2.cells.toList))=some vs→Instr.fill place cells ps=some vs.toArray
 |[],cells,vs,h=>by simp only[List.map_nil,fillL,Option.some.injEq] at h;simp[Instr.fill,←h]
 |(i,v)::ps,cells,vs,h=>by
  simp only[List.map_cons,fillL] at h
  split at h
  ·cases h
  ·rename_i off size hp
   split at h
   ·cases h
   ·rename_i hc
    simp only[Array.length_toList,not_or,Decidable.not_not,Nat.not_lt] at hc
    have h1:(v.cells.size≠size||off+v.cells.size>cells.size)=false:=by simp;omega
    simp only[Instr.fill,hp,h1,Bool.false_eq_true,if_false]
    apply Qdy place ps
    have h2:=Qf2 off v.cells.toList 0 cells (by simp;omega)
    have h3:(v.cells.zipIdx.foldl (fun cs (p:Value×Nat)=>cs.setIfInBounds (off+p.2) p.1) cells)=((v.cells.toList.zipIdx 0).foldl (fun(cs:Array Value)(p:Value×Nat)=>cs.setIfInBounds (off+p.2) p.1) cells):=by
     rw[←Array.foldl_toList,Array.toList_zipIdx]
    have h4:(v.cells.zipIdx.foldl (fun cs (x:Value×Nat)=>match x with|(c,j)=>cs.setIfInBounds (off+j) c) cells).toList=splice off v.cells.toList cells.toList:=by
     have:(fun(cs:Array Value)(x:Value×Nat)=>match x with|(c,j)=>cs.setIfInBounds (off+j) c)=(fun cs (p:Value×Nat)=>cs.setIfInBounds (off+p.2) p.1):=by funext cs x;rfl
     rw[this,h3,h2];simp[splice]
    rw[h4];exact h
theorem Qea (h:Rel B s a w ρ):∀{ps:List (Nat×Operand)}{qs:List (Nat×List A)},partsA s ps=some qs→
  qs.map (·.1)=(ps.map fun p=>(p.1,(a.eval p.2).cells.toList)).map (·.1)∧
  (∀(j:Nat) p q,qs[j]? = some p→(ps.map fun p=>(p.1,(a.eval p.2).cells.toList))[j]? = some q→relAs ρ (view B.hid (own ρ s.objs) w) p.2 q.2)∧
  ∀p∈ps,∀c∈(a.eval p.2).cells.toList,c.oneCell'=true
 |[],qs,hq=>by simp[partsA] at hq;subst hq;simp
 |(i,x)::ps,qs,hq=>by
  simp only[partsA] at hq
  split at hq
  ·rename_i l r hl hr
   cases hq
   obtain⟨h1,h2,h3⟩:=Qea h hr
   have h4:=Qc1 h hl (h.opd x)
   refine⟨by simp[h1],fun j p q hp hq => ?_,fun p hp => ?_⟩
   ·match j,hp,hq with
    |0,hp,hq=>simp at hp hq;subst hp;subst hq;exact h4.1
    |j+1,hp,hq=>exact h2 j p q (by simpa using hp) (by simpa using hq)
   ·rcases List.mem_cons.1 hp with rfl|hp
    ·exact h4.2
    ·exact h3 p hp
  ·cases hq
theorem relAs_tv {C:View}:∀(us:List Value),relAs ρ C (us.map tv) us:=Qgd
theorem vBuild_sound (h:Rel B s a w ρ){t:TypeId}{parts:List (Nat×Operand)}{p:List Prop}{y:A}(hv:vBuild P t parts s=some (p,y)):
  VOk P B s a w ρ (Instr.build t (parts.toArray.map fun(i,x)=>(i,a.eval x))) y:=by
 unfold vBuild at hv
 split at hv
 ·rename_i it fields hi hu
  split at hv
  ·rename_i z places ps hz hpl hps
   simp only[Option.map_eq_some_iff,Prod.mk.injEq] at hv
   obtain⟨l,h1,_,rfl⟩:=hv
   obtain⟨h2,h3,_⟩:=Qea h hps
   obtain⟨vs,h4,h5⟩:=Qe5 _ ps _ _ l z.cells.toList h2 h3 (relAs_tv _) h1
   have h6:=Qdy (places.toArray[·]?) (parts.map fun p=>(p.1,a.eval p.2)) z.cells vs (by simpa[Function.comp_def] using h4)
   refine⟨.agg vs.toArray,run_build w t _ _ ?_,by simp only[relA];exact⟨_,rfl,by simpa using h5⟩⟩
   unfold Program.built
   simp only[hi,hu,hz,hpl]
   simpa using h6
  ·cases hv
 ·cases hv
end Go.Ab
