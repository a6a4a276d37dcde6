import Derived.Test.YtjlkmdmaimednaaGreatAbL
set_option linter.unusedVariables false
set_option linter.unusedSimpArgs false
namespace Go.Ab
def gBox (x:Operand)(dst:Option Tmp)(h:Hint)(s:St):Option (List Prop×G):=
 match dst,cells? s (ev s x) with
 |some d,some xs=>if idOk s (newId h d) then some ([],⟨some (.at (newId h d) 0),[(newId h d,some (.box (A.killL [newId h d] xs)))],[newId h d]⟩) else none
 |_,_=>none
def gAlloc (P:Program)(e:TypeId)(dst:Option Tmp)(h:Hint)(s:St):Option (List Prop×G):=
 match dst,P.info? e with
 |some d,some i=>match i.zero with
  |some z=>if idOk s (newId h d) then some ([],⟨some (.at (newId h d) 0),[(newId h d,some (.box (z.cells.toList.map tv)))],[newId h d]⟩) else none
  |none=>none
 |_,_=>none
def gStore (P:Program)(t:TypeId)(ad x:Operand)(h:Hint)(s:St):Option (List Prop×G):=
 match ev s ad,cells? s (ev s x) with
 |.at i off,some ys=>match s.objs i with
  |some (.box xs)=>if (P.info? t).isSome&&sizeT P t==ys.length&&decide (off+ys.length≤xs.length) then some ([],⟨none,[(i,some (.box (splice off ys xs)))],[]⟩) else none
  |_=>none
 |.elt i k m off,some ys=>match s.objs i,h,toTs ys with
  |some (.row m' rows),.row _ r,some tsv=>if (P.info? t).isSome&&sizeT P t==ys.length&&decide (off+ys.length≤r.length)&&m==m' then some ([rows[k]? = some r],⟨none,[(i,some (.row m (rows.set k (splice off tsv r))))],[]⟩) else none
  |_,_,_=>none
 |_,_=>none
def gBuildSlice (P:Program)(t:TypeId)(len:Nat)(parts:List (Nat×Operand))(dst:Option Tmp)(h:Hint)(s:St):Option (List Prop×G):=
 match dst,P.underlying t,partsA s parts with
 |some d,some (.slice e),some ps=>match P.info? e with
  |some i=>match i.zero,(fillL (fun j=>some (j*i.size,i.size)) (List.replicate (len*i.size) A.dead) ps).bind toTs with
   |some z,some l=>if idOk s (newId h d)&&decide (0<i.size)&&decide (len*i.size≤16777216)&&z.cells.toList.all (·.oneCell')&&z.cells.size==i.size then some ([],⟨some (.ref (newId h d)),[(newId h d,some (.row i.size (chunk i.size len l)))],[newId h d]⟩) else none
   |_,_=>none
  |none=>none
 |_,_,_=>none
def gMake (P:Program)(t:TypeId)(ln cp:Operand)(dst:Option Tmp)(h:Hint)(j:Nat)(s:St):Option (List Prop×G):=
 match dst,P.underlying t,ev s ln,ev s cp,h with
 |some _,some (.slice e),.t (.v (.int _ a)),.t (.v (.int _ b)),.cut l c=>match P.info? e with
  |some i=>match i.zero with
   |some z=>if idOk s j&&z.cells.toList.length==i.size&&z.cells.toList.all (·.oneCell')&&decide (0<i.size) then
     some ([a=(l:Int)∧b=(c:Int)∧l≤c∧i.bytes*c≤281474976710656∧c≤maxLen],⟨some (.ref j),[(j,some (.row i.size (List.replicate l (z.cells.toList.map .v))))],[j]⟩) else none
   |none=>none
  |none=>none
 |_,_,_,_,_=>none
def gAppend (P:Program)(t t2:TypeId)(sx x:Operand)(dst:Option Tmp)(h:Hint)(s:St):Option (List Prop×G):=
 match dst,P.underlying t with
 |some d,some (.slice e)=>match P.info? e,rowsOf s (ev s x) with
  |some i,some (m2,new)=>
   if t==t2&&i.zero.isSome&&decide (0<i.size)&&(m2==none||m2==some i.size)&&idOk s (newId h d) then
    match i.zero,ev s sx with
    |some z,.t (.v (.slice none 0 0))=>if z.cells.size==i.size then some ([new.length≤maxLen∧new.length*i.bytes≤140737488355328],⟨some (.ref (newId h d)),[(newId h d,some (.row i.size new))],[newId h d]⟩) else none
    |some z,.ref j=>match s.objs j with
     |some (.row m old)=>if z.cells.size==i.size&&m==i.size then some ([old.length+new.length≤maxLen∧(old.length+new.length)*i.bytes≤140737488355328],⟨some (.ref (newId h d)),[(newId h d,some (.row i.size (old++new))),(j,none)],[newId h d]⟩) else none
     |_=>none
    |_,_=>none
   else none
  |_,_=>none
 |_,_=>none
def gCall (P:Program)(f:Operand)(args:List Operand)(h:Hint)(s:St):Option (List Prop×G):=
 match calleeOf s f,callInfo h with
 |some (g,cap),some (nl,ids,ro,r,os0)=>match pickO s ids with
  |some os=>
   let os':=os0++pickOs s.objs ro
   let new:=newIds ids os'
   if (new.all (idOk s)&&r.only (keptIds ids++new)&&os'.all (fun p=>p.2.only (keptIds ids++new)))&&(ro.all (fun i=>ids.contains i&&(os0.lookup i).isNone)&&(pickOs s.objs ro).all (fun p=>disj p.2.refs new)) then
    some ([Con P g (nilArgs nl (args.map (ev s)++cap)) os (fun r' o'=>r'=r∧o'=os')],⟨some r,os0.map (fun p=>(p.1,some p.2))++(ids.filter fun i => !ro.contains i).map (fun i=>(i,none)),new⟩)
   else none
  |none=>none
 |_,_=>none
def gRO (P:Program)(f:Operand)(args:List Operand)(nl:List (List Nat×Nat))(r:A)(s:St):Option (List Prop×G):=
 match calleeOf s f with
 |some (g,cap)=>if r.val?.isSome then some ([Con P g (nilArgs nl (roL s.objs (args.map (ev s)++cap))) [] (fun r' o'=>r'=r∧o'=[])],⟨some r,[],[]⟩) else none
 |none=>none
def gMakeMap (P:Program)(t:TypeId)(dst:Option Tmp)(h:Hint)(s:St):Option (List Prop×G):=
 match dst,P.underlying t with
 |some d,some (.map _ et)=>if idOk s (newId h d) then some ([],⟨some (.ref (newId h d)),[(newId h d,some (.map (aggT P et) 0 []))],[newId h d]⟩) else none
 |_,_=>none
def gMapUpdate0 (P:Program)(t:TypeId)(m k v:Operand)(h:Hint)(s:St):Option (List Prop×G):=
 match entA P t,mapAt s (ev s m),(ev s k).val?,h with
 |some (kd,_,_),some (j,agg,clock,es),some kv,.got r=>match vTs s agg (ev s v) with
  |some r'=>if keyFits P kd kv then match r with
   |some (n,e)=>some ([getE kd kv es 0=some (some (n,e))],⟨none,[(j,some (.map agg clock (es.set n ⟨kv,e.born,r'⟩)))],[]⟩)
   |none=>some ([getE kd kv es 0=some none],⟨none,[(j,some (.map agg (clock+1) (es++[⟨kv,clock,r'⟩])))],[]⟩)
   else none
  |none=>none
 |_,_,_,_=>none
def gMapUpdate (P:Program)(t:TypeId)(m k v:Operand)(h:Hint)(s:St):Option (List Prop×G):=
 match h with
 |.putM clock' es'=>match entA P t,mapAt s (ev s m),(ev s k).val? with
  |some (kd,_,_),some (j,agg,clock,es),some kv=>match vTs s agg (ev s v) with
   |some r'=>if keyFits P kd kv then some ([PutE (nk kd) kv r' clock es clock' es'],⟨none,[(j,some (.map agg clock' es'))],[]⟩) else none
   |none=>none
  |_,_,_=>none
 |h=>gMapUpdate0 P t m k v h s
def gMapEntry0 (P:Program)(t:TypeId)(m k:Operand)(h:Hint)(s:St):Option (List Prop×G):=
 match entA P t,mapAt s (ev s m),(ev s k).val?,h with
 |some (kd,_,i),some (j,agg,clock,es),some kv,.got r=>if keyFits P kd kv then match r with
   |some (n,e)=>(toVal agg e.val).map fun y=>([getE kd kv es 0=some (some (n,e))],⟨some (.tup [y,.t (i64 e.born)]),[(j,some (.map agg clock (es.set n ⟨kv,e.born,e.val⟩)))],[]⟩)
   |none=>match i.zero with
    |some z=>if agg==aggV z&&z.cells.toList.all (·.oneCell') then some ([getE kd kv es 0=some none],⟨some (.tup [ofVal1 z,.t (i64 clock)]),[(j,some (.map agg (clock+1) (es++[⟨kv,clock,z.cells.toList.map .v⟩])))],[]⟩) else none
    |none=>none
   else none
 |_,_,_,_=>none
def gMapEntry (P:Program)(t:TypeId)(m k:Operand)(h:Hint)(s:St):Option (List Prop×G):=
 match h with
 |.entM row st clock' es'=>match entA P t,mapAt s (ev s m),(ev s k).val? with
  |some (kd,_,i),some (j,agg,clock,es),some kv=>match i.zero with
   |some z=>if keyFits P kd kv&&(agg==aggV z)&&z.cells.toList.all (·.oneCell') then
     (toVal agg row).map fun y=>([EntE (nk kd) kv (z.cells.toList.map .v) clock es row st clock' es'],⟨some (.tup [y,.t (i64 st)]),[(j,some (.map agg clock' es'))],[]⟩)
    else none
   |none=>none
  |_,_,_=>none
 |h=>gMapEntry0 P t m k h s
def gEntryStore0 (m st v:Operand)(h:Hint)(s:St):Option (List Prop×G):=
 match mapAt s (ev s m),ev s st,h with
 |some (j,agg,clock,es),.t (.v (.int _ b)),.got (some (n,e))=>match vTs s agg (ev s v) with
  |some r'=>some ([es.findIdx? (fun x=>(x.born:Int)==b)=some n∧es[n]? = some e],⟨none,[(j,some (.map agg clock (es.set n ⟨e.key,e.born,r'⟩)))],[]⟩)
  |none=>none
 |_,_,_=>none
def gEntryStore (m st v:Operand)(h:Hint)(s:St):Option (List Prop×G):=
 match h with
 |.entS clock' es'=>match mapAt s (ev s m),ev s st with
  |some (j,agg,clock,es),.t (.v (.int _ b))=>match vTs s agg (ev s v) with
   |some r'=>some ([clock'=clock∧StoE b r' es es'],⟨none,[(j,some (.map agg clock' es'))],[]⟩)
   |none=>none
  |_,_=>none
 |h=>gEntryStore0 m st v h s
def gDelete0 (P:Program)(t:TypeId)(m k:Operand)(h:Hint)(s:St):Option (List Prop×G):=
 match entA P t,mapAt s (ev s m),(ev s k).val?,h with
 |some (kd,_,_),some (j,agg,clock,es),some kv,.got r=>if keyFits P kd kv then match r with
   |some (n,e)=>some ([getE kd kv es 0=some (some (n,e))],⟨some (.tup []),[(j,some (.map agg clock (es.eraseIdx n)))],[]⟩)
   |none=>some ([getE kd kv es 0=some none],⟨some (.tup []),[(j,some (.map agg clock es))],[]⟩)
   else none
 |_,_,_,_=>none
def gDelete (P:Program)(t:TypeId)(m k:Operand)(h:Hint)(s:St):Option (List Prop×G):=
 match h with
 |.delM es'=>match entA P t,mapAt s (ev s m),(ev s k).val? with
  |some (kd,_,_),some (j,agg,clock,es),some kv=>if keyFits P kd kv then some ([DelE (nk kd) kv es es'],⟨some (.tup []),[(j,some (.map agg clock es'))],[]⟩) else none
  |_,_,_=>none
 |h=>gDelete0 P t m k h s
def stepG0 (P:Program)(n:Nat)(o:Oper)(h:Hint)(s:St):Option (List Prop×G):=
 if dstOk n o.dst then
  match o.op with
  |.box _ x=>gBox x o.dst h s
  |.alloc e=>gAlloc P e o.dst h s
  |.store t ad x=>if o.dst.isNone then gStore P t ad x h s else none
  |.buildSlice t len parts=>gBuildSlice P t len parts.toList o.dst h s
  |.makeSlice t l c=>match o.dst with|some d=>gMake P t l c o.dst h d s|none=>none
  |.call { callee := .builtin .append,args:=args,argTypes:=tys }=>match args.toList,tys.toList with
   |[x,y],[t,t2]=>gAppend P t t2 x y o.dst h s
   |_,_=>none
  |.call { callee := .builtin .delete,args:=args,argTypes:=tys }=>match args.toList,tys.toList with
   |[m,k],[t,_]=>gDelete P t m k h s
   |_,_=>none
  |.makeMap t none=>gMakeMap P t o.dst h s
  |.mapUpdate t m k v=>if o.dst.isNone then gMapUpdate P t m k v h s else none
  |.mapEntry t m k=>gMapEntry P t m k h s
  |.entryStore _ m x v=>if o.dst.isNone then gEntryStore m x v h s else none
  |.range _ _ | .next _ false | .entry _=>none
  |.call { callee := .value f,args:=args,.. }=>match roInfo h with
   |some (nl,r)=>gRO P f args.toList nl r s
   |none=>gCall P f args.toList h s
  |_=>((valueOp P o h s).bind (vDir h)).map fun r=>(r.1,⟨some r.2,[],[]⟩)
 else none
def G.frz (g:G)(d m:Nat)(rows:List (List T)):G:=⟨g.val.map (A.frz d m rows),(d,none)::g.upd,g.new⟩
def stepG (P:Program)(n:Nat)(o:Oper)(h:Hint)(s:St):Option (List Prop×G):=
 match h,o.dst with
 |.fz,some d=>match stepG0 P n o .fz s with
  |some (p,g)=>match g.upd.lookup d with
   |some (some (.row m rows))=>if g.new.contains d && !(oRefs g.upd).contains d then some (p,g.frz d m rows) else none
   |_=>none
  |none=>none
 |h,_=>stepG0 P n o h s
variable {P:Program} {n:Nat} {s s':St}
mutual
theorem frz_id {j m:Nat}{rows:List (List T)}:∀(x:A),j∉x.refs→x.frz j m rows=x
 |.dead,_=>rfl
 |.t _,_=>rfl
 |.agg xs,h=>by simp only[A.frz,A.refs] at h ⊢;rw[frzL_id xs h]
 |.ref i,h=>by
  simp only[A.frz,A.refs,List.mem_singleton] at h ⊢
  have:(i==j)=false:=by simpa using fun e=>h e.symm
  rw[this];rfl
 |.at i off,h=>by
  simp only[A.frz,A.refs,List.mem_singleton] at h ⊢
  have:(i==j)=false:=by simpa using fun e=>h e.symm
  rw[this];rfl
 |.elt i k m' off,h=>by
  simp only[A.frz,A.refs,List.mem_singleton] at h ⊢
  have:(i==j)=false:=by simpa using fun e=>h e.symm
  rw[this];rfl
 |.tup xs,h=>by simp only[A.frz,A.refs] at h ⊢;rw[frzL_id xs h]
 |.fn f xs,h=>by simp only[A.frz,A.refs] at h ⊢;rw[frzL_id xs h]
theorem frzL_id {j m:Nat}{rows:List (List T)}:∀(xs:List A),j∉A.refsL xs→A.frzL j m rows xs=xs
 |[],_=>rfl
 |x::xs,h=>by
  simp only[A.frzL,A.refsL,List.mem_append,not_or] at h ⊢
  rw[frz_id x h.1,frzL_id xs h.2]
end
theorem ofrz_id {j m:Nat}{rows:List (List T)}:∀(o:O),j∉o.refs→o.frz j m rows=o
 |.box xs,h=>by simp only[O.frz,O.refs] at h ⊢;rw[frzL_id xs h]
 |.row _ _,_=>rfl
 |.map _ _ _,_=>rfl
 |.iter _ _ _ _,_=>rfl
 |.junk,_=>rfl
theorem Qec (x:A):x.kill []=x:=kill_id x fun _ _=>by simp
theorem okill_nil:(O.kill [])=id:=by funext o;exact Qeq o fun _ _=>by simp
theorem St.ext' {s t:St}(h1:∀i,s.slots i=t.slots i) (h2:∀i,s.objs i=t.objs i) (h3:s.base=t.base):s=t:=by
 cases s;cases t;simp only[St.mk.injEq];exact⟨funext h1,funext h2,h3⟩
theorem Qed (d t:Nat):((some d:Option Nat)==some t)=(t==d):=by
 by_cases h:d=t
 ·subst h;simp
 ·have:t≠d:=fun e=>h e.symm
  have e1:(t==d)=false:=by simpa using this
  have e2:(d==t)=false:=by simpa using h
  show(d==t)=_
  rw[e1,e2]
theorem apply_val (x:A) (dst:Option Nat) (s:St):(⟨some x,[],[]⟩:G).apply dst s=s.putO dst x:=by
 refine St.ext' (fun t => ?_) (fun k => ?_) (by cases dst<;>rfl)
 ·cases dst with
  |none=>simp[G.apply,St.putO,Qec]
  |some d=>simp only[G.apply,St.putO,St.put,Qed,Qec]
 ·cases dst<;>simp[G.apply,St.putO,St.put,okill_nil]
theorem Qcm (i:Nat) (o:O) (s:St):(⟨none,[(i,some o)],[]⟩:G).apply none s=s.set i o:=by
 refine St.ext' (fun t => ?_) (fun k => ?_) rfl
 ·simp[G.apply,St.set,Qec]
 ·simp only[G.apply,St.set,List.lookup_cons,List.lookup_nil,okill_nil]
  cases hk:(k==i)<;>simp
theorem Qcn (i:Nat) (o:O) (x:A) (dst:Option Nat) (s:St):(⟨some x,[(i,some o)],[]⟩:G).apply dst s=(s.set i o).putO dst x:=by
 refine St.ext' (fun t => ?_) (fun k => ?_) (by cases dst<;>rfl)
 ·cases dst with
  |none=>simp[G.apply,St.set,St.putO,Qec]
  |some d=>simp only[G.apply,St.set,St.putO,St.put,Qed,Qec]
 ·have:((⟨some x,[(i,some o)],[]⟩:G).apply dst s).objs k=(s.set i o).objs k:=by
   simp only[G.apply,St.set,List.lookup_cons,List.lookup_nil,okill_nil]
   cases hk:(k==i)<;>simp
  rw[this];cases dst<;>rfl
theorem apply_mk (jo:Option Nat) (k:Nat) (o:O) (x:A) (d:Nat) (s:St):(⟨some x,(k,some o)::(match jo with|some j=>[(j,none)]|none=>[]),[k]⟩:G).apply (some d) s=(s.mv jo k o).put d x:=by
 refine St.ext' (fun t => ?_) (fun i => ?_) rfl
 ·simp only[G.apply,St.mv,St.put,Qed]
 ·simp only[G.apply,St.mv,St.put,List.lookup_cons]
  cases hk:(i==k) with
  |true=>simp
  |false=>
   cases jo with
   |none=>simp
   |some j=>
    simp only[List.lookup_cons,List.lookup_nil,Qed]
    cases hj:(i==j)<;>simp
theorem lookup_app {l m:List (Nat×Option O)}{i:Nat}:(l++m).lookup i=match l.lookup i with|some u=>some u|none=>m.lookup i:=by
 induction l with
 |nil=>rfl
 |cons p l ih=>
  rw[List.cons_append,List.lookup_cons,List.lookup_cons]
  cases (i==p.1)<;>simp[ih]
theorem lookup_some {l:List (Nat×O)}{i:Nat}:(l.map fun p=>(p.1,some p.2)).lookup i=(l.lookup i).map some:=by
 induction l with
 |nil=>rfl
 |cons p l ih=>rw[List.map_cons,List.lookup_cons,List.lookup_cons];cases (i==p.1)<;>simp[ih]
theorem lookup_none {l:List Nat}{i:Nat}:(l.map fun i=>((i,none):Nat×Option O)).lookup i=if l.contains i then some none else none:=by
 induction l with
 |nil=>rfl
 |cons p l ih=>
  rw[List.map_cons,List.lookup_cons]
  by_cases hp:i=p
  ·subst hp;simp
  ·have:(i==p)=false:=by simpa using hp
   rw[this,ih];simp[hp]
theorem lookup_mem' {α:Type}{l:List (Nat×α)}{i:Nat}{x:α}(h:l.lookup i=some x):(i,x)∈l:=by
 induction l with
 |nil=>simp at h
 |cons p l ih=>
  rw[List.lookup_cons] at h
  split at h
  ·rename_i he
   cases h
   have:i=p.1:=by simpa using he
   subst this;simp
  ·exact List.mem_cons_of_mem _ (ih h)
theorem apply_afterR (ids ro new:List Nat) (os0:List (Nat×O)) (r:A) (dst:Option Nat) (s:St)
  (h1:ro.all (fun i=>ids.contains i&&(os0.lookup i).isNone)=true) (h2:(pickOs s.objs ro).all (fun p=>disj p.2.refs new)=true) (h3:∀i∈ids,(s.objs i).isSome=true):
  (⟨some r,os0.map (fun p=>(p.1,some p.2))++(ids.filter fun i => !ro.contains i).map (fun i=>(i,none)),new⟩:G).apply dst s=(s.after ids new (os0++pickOs s.objs ro)).putO dst r:=by
 refine St.ext' (fun t => ?_) (fun i => ?_) (by cases dst<;>rfl)
 ·cases dst with
  |none=>simp[G.apply,St.putO,St.after]
  |some d=>simp only[G.apply,St.putO,St.put,St.after,Qed]
 ·have e:((s.after ids new (os0++pickOs s.objs ro)).putO dst r).objs i=(s.after ids new (os0++pickOs s.objs ro)).objs i:=by cases dst<;>rfl
  rw[e]
  have ha:∀(l m:List (Nat×O)),(l++m).lookup i=match l.lookup i with|some u=>some u|none=>m.lookup i:=by
   intro l m
   induction l with
   |nil=>rfl
   |cons p l ih=>rw[List.cons_append,List.lookup_cons,List.lookup_cons];cases (i==p.1)<;>simp[ih]
  simp only[G.apply,St.after,lookup_app,lookup_some,lookup_none,ofO,ha,Qar]
  cases h4:os0.lookup i with
  |some o=>rfl
  |none=>
   simp only[Option.map_none]
   by_cases h5:i∈ro
   ·have h6:=List.all_eq_true.1 h1 i h5
    simp only[Bool.and_eq_true] at h6
    obtain⟨o,ho⟩:=Option.isSome_iff_exists.1 (h3 i (by simpa using h6.1))
    have h7:disj o.refs new=true:=List.all_eq_true.1 h2 (i,o) (lookup_mem' (by rw[Qar,if_pos h5,ho]))
    simp only[h5,if_true,ho,Option.map_some]
    rw[Qeq o (Qbw h7)]
    simp[h5]
   ·simp only[h5,if_false]
    by_cases h6:i∈ids<;>simp[h5,h6]
theorem Qfa (k:Nat) (o:O) (x:A) (d:Nat) (s:St):(⟨some x,[(k,some o)],[k]⟩:G).apply (some d) s=(s.mv none k o).put d x:=apply_mk none k o x d s
theorem mk_some (j k:Nat) (o:O) (x:A) (d:Nat) (s:St):(⟨some x,[(k,some o),(j,none)],[k]⟩:G).apply (some d) s=(s.mv (some j) k o).put d x:=apply_mk (some j) k o x d s
theorem gBox_eq {x:Operand}{dst:Option Tmp}{h:Hint}{p:List Prop}{g:G}(hg:gBox x dst h s=some (p,g)):eBox x dst h s=some (p,g.apply dst s):=by
 unfold gBox at hg
 split at hg
 ·rename_i d xs hx
  split at hg
  ·rename_i hid;cases hg;simp only[eBox,hx,hid,if_true,Qfa]
  ·cases hg
 ·cases hg
theorem gAlloc_eq {e:TypeId}{dst:Option Tmp}{h:Hint}{p:List Prop}{g:G}(hg:gAlloc P e dst h s=some (p,g)):eAlloc P e dst h s=some (p,g.apply dst s):=by
 unfold gAlloc at hg
 split at hg
 ·rename_i d i hi
  split at hg
  ·rename_i z hz
   split at hg
   ·rename_i hid;cases hg;simp only[eAlloc,hi,hz,hid,if_true,Qfa]
   ·cases hg
  ·cases hg
 ·cases hg
theorem gStore_eq {t:TypeId}{ad x:Operand}{h:Hint}{p:List Prop}{g:G}(hg:gStore P t ad x h s=some (p,g)):eStore P t ad x h s=some (p,g.apply none s):=by
 unfold gStore at hg
 split at hg
 ·rename_i i off ys he hy
  split at hg
  ·rename_i xs ho
   split at hg
   ·rename_i hc;cases hg;simp only[eStore,he,hy,ho,hc,if_true,Qcm]
   ·cases hg
  ·cases hg
 ·rename_i i k m off ys he hy
  split at hg
  ·rename_i m' rows n' r tsv ho hts
   split at hg
   ·rename_i hc;cases hg;simp only[eStore,he,hy,ho,hts,hc,if_true,Qcm]
   ·cases hg
  ·cases hg
 ·cases hg
theorem gBuildSlice_eq {t:TypeId}{len:Nat}{parts:List (Nat×Operand)}{dst:Option Tmp}{h:Hint}{p:List Prop}{g:G}(hg:gBuildSlice P t len parts dst h s=some (p,g)):eBuildSlice P t len parts dst h s=some (p,g.apply dst s):=by
 unfold gBuildSlice at hg
 split at hg
 ·rename_i d e ps hu hps
  split at hg
  ·rename_i i hi
   split at hg
   ·rename_i z l hz hl
    split at hg
    ·rename_i hc;cases hg;simp only[eBuildSlice,hu,hps,hi,hz,hl,hc,if_true,Qfa]
    ·cases hg
   ·cases hg
  ·cases hg
 ·cases hg
theorem gMake_eq {t:TypeId}{ln cp:Operand}{d:Tmp}{h:Hint}{j:Nat}{p:List Prop}{g:G}(hg:gMake P t ln cp (some d) h j s=some (p,g)):eMake P t ln cp (some d) h j s=some (p,g.apply (some d) s):=by
 unfold gMake at hg
 split at hg
 ·rename_i d' e kl x kc y l c hd' hu hl hc
  cases hd'
  split at hg
  ·rename_i i hi
   split at hg
   ·rename_i z hz
    split at hg
    ·rename_i hcc;cases hg;simp only[eMake,hu,hl,hc,hi,hz,hcc,if_true,Qfa]
    ·cases hg
   ·cases hg
  ·cases hg
 ·cases hg
theorem gAppend_eq {t t2:TypeId}{sx x:Operand}{dst:Option Tmp}{h:Hint}{p:List Prop}{g:G}(hg:gAppend P t t2 sx x dst h s=some (p,g)):eAppend P t t2 sx x dst h s=some (p,g.apply dst s):=by
 unfold gAppend at hg
 split at hg
 ·rename_i d e hu
  split at hg
  ·rename_i i m2 new hi hr
   split at hg
   ·rename_i hc
    split at hg
    ·rename_i z hz he
     split at hg
     ·rename_i hzc;cases hg;rw[hz] at hc;simp only[eAppend,hu,hi,hr,hc,hz,he,hzc,if_true,Qfa]
     ·cases hg
    ·rename_i z j hz he
     split at hg
     ·rename_i m old ho
      split at hg
      ·rename_i hzc;cases hg;rw[hz] at hc;simp only[eAppend,hu,hi,hr,hc,hz,he,ho,hzc,if_true,mk_some]
      ·cases hg
     ·cases hg
    ·cases hg
   ·cases hg
  ·cases hg
 ·cases hg
theorem gCall_eq {f:Operand}{args:List Operand}{dst:Option Tmp}{h:Hint}{p:List Prop}{g:G}(hg:gCall P f args h s=some (p,g)):eCall P f args dst h s=some (p,g.apply dst s):=by
 unfold gCall at hg
 split at hg
 ·rename_i f' cap nl ids ro r os0 hc hci
  split at hg
  ·rename_i os hpk
   simp only at hg
   split at hg
   ·rename_i hcond
    obtain⟨hcond,hr2⟩:=Bool.and_eq_true_iff.1 hcond
    obtain⟨hro,hdj⟩:=Bool.and_eq_true_iff.1 hr2
    cases hg
    rw[apply_afterR ids ro _ os0 r dst s hro hdj fun i hi=>((Qdu hpk i).1 hi).2]
    simp only[eCall,hc,hci,hpk,hcond,if_true]
   ·cases hg
  ·cases hg
 ·cases hg
theorem gRO_eq {f:Operand}{args:List Operand}{dst:Option Tmp}{nl:List (List Nat×Nat)}{r:A}{p:List Prop}{g:G}(hg:gRO P f args nl r s=some (p,g)):eRO P f args dst nl r s=some (p,g.apply dst s):=by
 unfold gRO at hg
 split at hg
 ·rename_i f' cap hc
  split at hg
  ·rename_i hv;cases hg;simp only[eRO,hc,hv,if_true,apply_val]
  ·cases hg
 ·cases hg
theorem gMakeMap_eq {t:TypeId}{dst:Option Tmp}{h:Hint}{p:List Prop}{g:G}(hg:gMakeMap P t dst h s=some (p,g)):eMakeMap P t dst h s=some (p,g.apply dst s):=by
 unfold gMakeMap at hg
 split at hg
 ·rename_i d kt et hu
  split at hg
  ·rename_i hc;cases hg;simp only[eMakeMap,hu,hc,if_true,Qfa]
  ·cases hg
 ·cases hg
theorem gMapUpdate0_eq {t:TypeId}{m k v:Operand}{h:Hint}{p:List Prop}{g:G}(hg:gMapUpdate0 P t m k v h s=some (p,g)):eMapUpdate0 P t m k v h s=some (p,g.apply none s):=by
 unfold gMapUpdate0 at hg
 split at hg
 ·rename_i kd et i j agg clock es kv r he hm hk
  split at hg
  ·rename_i r' hv
   split at hg
   ·rename_i hc
    split at hg<;>(cases hg;simp only[eMapUpdate0,he,hm,hk,hv,hc,if_true,Qcm])
   ·cases hg
  ·cases hg
 ·cases hg
theorem gMapUpdate_eq {t:TypeId}{m k v:Operand}{h:Hint}{p:List Prop}{g:G}(hg:gMapUpdate P t m k v h s=some (p,g)):eMapUpdate P t m k v h s=some (p,g.apply none s):=by
 unfold gMapUpdate at hg
 unfold eMapUpdate
 split at hg
 ·simp only
  split at hg
  ·rename_i kd et i j agg clock es kv he hm hk
   split at hg
   ·rename_i r' hv
    split at hg
    ·rename_i hc;cases hg;simp only[eMapUpdateL,he,hm,hk,hv,hc,if_true,Qcm]
    ·cases hg
   ·cases hg
  ·cases hg
 ·rename_i hne
  split
  ·exact absurd rfl (hne _ _)
  ·exact gMapUpdate0_eq hg
theorem gMapEntry0_eq {t:TypeId}{m k:Operand}{dst:Option Tmp}{h:Hint}{p:List Prop}{g:G}(hg:gMapEntry0 P t m k h s=some (p,g)):eMapEntry0 P t m k dst h s=some (p,g.apply dst s):=by
 unfold gMapEntry0 at hg
 split at hg
 ·rename_i kd et i j agg clock es kv r he hm hk
  split at hg
  ·rename_i hc
   split at hg
   ·simp only[Option.map_eq_some_iff] at hg
    obtain⟨y,hy,hg⟩:=hg
    cases hg;simp only[eMapEntry0,he,hm,hk,hc,if_true,hy,Option.map_some,Qcn]
   ·split at hg
    ·rename_i z hz
     split at hg
     ·rename_i ha;cases hg;simp only[eMapEntry0,he,hm,hk,hc,if_true,hz,ha,Qcn]
     ·cases hg
    ·cases hg
  ·cases hg
 ·cases hg
theorem gEntryStore0_eq {m x v:Operand}{h:Hint}{p:List Prop}{g:G}(hg:gEntryStore0 m x v h s=some (p,g)):eEntryStore0 m x v h s=some (p,g.apply none s):=by
 unfold gEntryStore0 at hg
 split at hg
 ·rename_i j agg clock es q b n e hm hk
  split at hg
  ·rename_i r' hv;cases hg;simp only[eEntryStore0,hm,hk,hv,Qcm]
  ·cases hg
 ·cases hg
theorem gMapEntry_eq {t:TypeId}{m k:Operand}{dst:Option Tmp}{h:Hint}{p:List Prop}{g:G}(hg:gMapEntry P t m k h s=some (p,g)):eMapEntry P t m k dst h s=some (p,g.apply dst s):=by
 unfold gMapEntry at hg
 unfold eMapEntry
 split at hg
 ·simp only
  split at hg
  ·rename_i kd et i j agg clock es kv he hm hk
   split at hg
   ·rename_i z hz
    split at hg
    ·rename_i hc
     simp only[Option.map_eq_some_iff] at hg
     obtain⟨y,hy,hg⟩:=hg
     cases hg;simp only[eMapEntryL,he,hm,hk,hz,hc,if_true,hy,Option.map_some,Qcn]
    ·cases hg
   ·cases hg
  ·cases hg
 ·rename_i hne
  split
  ·exact absurd rfl (hne _ _ _ _)
  ·exact gMapEntry0_eq hg
theorem gEntryStore_eq {m x v:Operand}{h:Hint}{p:List Prop}{g:G}(hg:gEntryStore m x v h s=some (p,g)):eEntryStore m x v h s=some (p,g.apply none s):=by
 unfold gEntryStore at hg
 unfold eEntryStore
 split at hg
 ·simp only
  split at hg
  ·rename_i j agg clock es q b hm hk
   split at hg
   ·rename_i r' hv;cases hg;simp only[eEntryStoreL,hm,hk,hv,Qcm]
   ·cases hg
  ·cases hg
 ·rename_i hne
  split
  ·exact absurd rfl (hne _ _)
  ·exact gEntryStore0_eq hg
theorem gDelete0_eq {t:TypeId}{m k:Operand}{dst:Option Tmp}{h:Hint}{p:List Prop}{g:G}(hg:gDelete0 P t m k h s=some (p,g)):eDelete0 P t m k dst h s=some (p,g.apply dst s):=by
 unfold gDelete0 at hg
 split at hg
 ·rename_i kd et i j agg clock es kv r he hm hk
  split at hg
  ·rename_i hc
   split at hg<;>(cases hg;simp only[eDelete0,he,hm,hk,hc,if_true,Qcn])
  ·cases hg
 ·cases hg
theorem gDelete_eq {t:TypeId}{m k:Operand}{dst:Option Tmp}{h:Hint}{p:List Prop}{g:G}(hg:gDelete P t m k h s=some (p,g)):eDelete P t m k dst h s=some (p,g.apply dst s):=by
 unfold gDelete at hg
 unfold eDelete
 split at hg
 ·simp only
  split at hg
  ·rename_i kd et i j agg clock es kv he hm hk
   split at hg
   ·rename_i hc;cases hg;simp only[eDeleteL,he,hm,hk,hc,if_true,Qcn]
   ·cases hg
  ·cases hg
 ·rename_i hne
  split
  ·exact absurd rfl (hne _)
  ·exact gDelete0_eq hg
theorem step0_eq {o:Oper}{h:Hint}{p:List Prop}{g:G}(hg:stepG0 P n o h s=some (p,g)):step0 P n o h s=some (p,g.apply o.dst s):=by
 obtain⟨dst,op,ty,pos,aft,gd⟩:=o
 unfold stepG0 at hg
 unfold step0
 dsimp only at hg ⊢
 split at hg
 ·rename_i hd
  rw[if_pos hd]
  split at hg
  ·exact gBox_eq hg
  ·exact gAlloc_eq hg
  ·cases dst with
   |some d=>cases hg
   |none=>exact gStore_eq hg
  ·exact gBuildSlice_eq hg
  ·cases dst with
   |some d=>exact gMake_eq hg
   |none=>cases hg
  ·split at hg
   ·rename_i x y t t2 h1 h2
    simp only[h1,h2]
    exact gAppend_eq hg
   ·cases hg
  ·split at hg
   ·rename_i m k t t2 h1 h2
    simp only[h1,h2]
    exact gDelete_eq hg
   ·cases hg
  ·exact gMakeMap_eq hg
  ·cases dst with
   |some d=>cases hg
   |none=>exact gMapUpdate_eq hg
  ·exact gMapEntry_eq hg
  ·cases dst with
   |some d=>cases hg
   |none=>exact gEntryStore_eq hg
  ·cases hg
  ·cases hg
  ·cases hg
  ·split at hg
   ·rename_i hro;simp only[hro];exact gRO_eq hg
   ·rename_i hro;simp only[hro];exact gCall_eq hg
  ·rename_i h1 h2 h3 h4 h5 h6 h7
   simp only[Option.map_eq_some_iff,Prod.mk.injEq] at hg
   obtain⟨r,hr,rfl,rfl⟩:=hg
   simp only[apply_val]
   rw[hr];rfl
 ·cases hg
theorem apply_frz {g:G}{d m:Nat}{rows:List (List T)}(hl:g.upd.lookup d=some (some (.row m rows))) (hn:d∈g.new) (hr:d∉oRefs g.upd):(g.apply (some d) s).frz d=(g.frz d m rows).apply (some d) s:=by
 have hobj:(g.apply (some d) s).objs d=some (.row m rows):=by simp only[G.apply,hl]
 unfold St.frz
 rw[hobj]
 refine St.ext' (fun t => ?_) (fun k => ?_) rfl
 ·simp only[G.apply,G.frz]
  have hk:((s.slots t).kill g.new).frz d m rows=(s.slots t).kill g.new:=frz_id _ fun hd=>(Qb9 _ d hd).2 hn
  cases g.val with
  |none=>simpa using hk
  |some x=>
   simp only[Option.map_some]
   split
   ·rfl
   ·exact hk
 ·simp only[G.apply,G.frz,List.lookup_cons]
  cases hk:(k==d) with
  |true=>simp
  |false=>
   simp only[Bool.false_eq_true,if_false]
   cases hu:g.upd.lookup k with
   |some u=>
    cases u with
    |none=>rfl
    |some o=>simp only[Option.map_some];rw[ofrz_id o fun hd=>hr (Qdj hu d hd)]
   |none=>
    simp only[Option.map_map]
    cases s.objs k with
    |none=>rfl
    |some o=>simp only[Option.map_some,Function.comp];rw[ofrz_id _ fun hd=>(Qdt o d hd).2 hn]
theorem step_eq {o:Oper}{h:Hint}{p:List Prop}{g:G}(hg:stepG P n o h s=some (p,g)):step P n o h s=some (p,g.apply o.dst s):=by
 unfold stepG at hg
 unfold step
 split at hg
 ·rename_i d hd
  rw[hd]
  split at hg
  ·rename_i p' g' hg'
   split at hg
   ·rename_i m rows hl
    split at hg
    ·rename_i hc
     simp only[Bool.and_eq_true,Bool.not_eq_true'] at hc
     cases hg
     have:=step0_eq hg'
     rw[hd] at this
     simp only[this,Option.map_some]
     rw[apply_frz hl (by simpa using hc.1) (by simpa using hc.2)]
    ·cases hg
   ·cases hg
  ·cases hg
 ·rename_i h' dst hne
  split
  ·rename_i d hd;exact absurd hd (hne d rfl)
  ·exact step0_eq hg
end Go.Ab
