import Derived.Test.YtjlkmdmaimednaaGreatAbJ
import Derived.Orders
set_option linter.unusedVariables false
set_option linter.unusedSimpArgs false
namespace Go.Ab
mutual
def A.refs:A→List Nat
 |.dead | .t _=>[]
 |.agg xs=>A.refsL xs
 |.ref i | .at i _ | .elt i _ _ _=>[i]
 |.tup xs=>A.refsL xs
 |.fn _ xs=>A.refsL xs
def A.refsL:List A→List Nat
 |[]=>[]
 |x::xs=>A.refs x++A.refsL xs
end
def O.refs:O→List Nat
 |.box xs=>A.refsL xs
 |.iter j _ _ _=>[j]
 |_=>[]
mutual
theorem kill_id {l:List Nat}:∀(x:A),(∀i∈x.refs,i∉l)→x.kill l=x
 |.dead,_=>rfl
 |.t _,_=>rfl
 |.agg xs,h=>by simp only[A.kill,A.refs] at h ⊢;rw[Qep xs h]
 |.ref i,h=>by simp only[A.kill,A.refs] at h ⊢;simp[h i (by simp)]
 |.at i off,h=>by simp only[A.kill,A.refs] at h ⊢;simp[h i (by simp)]
 |.elt i k m off,h=>by simp only[A.kill,A.refs] at h ⊢;simp[h i (by simp)]
 |.tup xs,h=>by simp only[A.kill,A.refs] at h ⊢;rw[Qep xs h]
 |.fn f xs,h=>by simp only[A.kill,A.refs] at h ⊢;rw[Qep xs h]
theorem Qep {l:List Nat}:∀(xs:List A),(∀i∈A.refsL xs,i∉l)→A.killL l xs=xs
 |[],_=>rfl
 |x::xs,h=>by
  simp only[A.killL,A.refsL,List.mem_append] at h ⊢
  rw[kill_id x fun i hi=>h i (.inl hi),Qep xs fun i hi=>h i (.inr hi)]
end
theorem Qeq {l:List Nat}:∀(o:O),(∀i∈o.refs,i∉l)→o.kill l=o
 |.box xs,h=>by simp only[O.kill,O.refs] at h ⊢;rw[Qep xs h]
 |.row _ _,_=>rfl
 |.map _ _ _,_=>rfl
 |.iter j _ _ _,h=>by
  have:j∉l:=h j (by simp[O.refs])
  simp only[O.kill]
  rw[if_neg (by simpa using this)]
 |.junk,_=>rfl
mutual
theorem Qdi {l m:List Nat}:∀(x:A),(x.kill l).kill m=(x.kill m).kill l
 |.dead=>rfl
 |.t _=>rfl
 |.agg xs=>by simp only[A.kill];rw[Qcu xs]
 |.ref i=>by
  simp only[A.kill]
  cases h1:l.contains i<;>cases h2:m.contains i<;>simp only[Bool.false_eq_true,if_false,if_true,A.kill,h1,h2]
 |.at i off=>by
  simp only[A.kill]
  cases h1:l.contains i<;>cases h2:m.contains i<;>simp only[Bool.false_eq_true,if_false,if_true,A.kill,h1,h2]
 |.elt i k n off=>by
  simp only[A.kill]
  cases h1:l.contains i<;>cases h2:m.contains i<;>simp only[Bool.false_eq_true,if_false,if_true,A.kill,h1,h2]
 |.tup xs=>by simp only[A.kill];rw[Qcu xs]
 |.fn f xs=>by simp only[A.kill];rw[Qcu xs]
theorem Qcu {l m:List Nat}:∀(xs:List A),A.killL m (A.killL l xs)=A.killL l (A.killL m xs)
 |[]=>rfl
 |x::xs=>by simp only[A.killL];rw[Qdi x,Qcu xs]
end
theorem okill_comm {l m:List Nat}:∀(o:O),(o.kill l).kill m=(o.kill m).kill l
 |.box xs=>by simp only[O.kill];rw[Qcu xs]
 |.row _ _=>rfl
 |.map _ _ _=>rfl
 |.iter j _ _ _=>by
  simp only[O.kill]
  cases h1:l.contains j<;>cases h2:m.contains j<;>simp only[Bool.false_eq_true,if_false,if_true,O.kill,h1,h2]
 |.junk=>rfl
mutual
theorem Qb9 {l:List Nat}:∀(x:A),∀i∈(x.kill l).refs,i∈x.refs∧i∉l
 |.dead,i,h=>by simp[A.kill,A.refs] at h
 |.t _,i,h=>by simp[A.kill,A.refs] at h
 |.agg xs,i,h=>by simp only[A.kill,A.refs] at h ⊢;exact Qcv xs i h
 |.ref j,i,h=>by
  simp only[A.kill] at h
  by_cases hj:j∈l
  ·simp[hj,A.refs] at h
  ·simp[hj,A.refs] at h;subst h;simp[A.refs,hj]
 |.at j off,i,h=>by
  simp only[A.kill] at h
  by_cases hj:j∈l
  ·simp[hj,A.refs] at h
  ·simp[hj,A.refs] at h;subst h;simp[A.refs,hj]
 |.elt j k m off,i,h=>by
  simp only[A.kill] at h
  by_cases hj:j∈l
  ·simp[hj,A.refs] at h
  ·simp[hj,A.refs] at h;subst h;simp[A.refs,hj]
 |.tup xs,i,h=>by simp only[A.kill,A.refs] at h ⊢;exact Qcv xs i h
 |.fn f xs,i,h=>by simp only[A.kill,A.refs] at h ⊢;exact Qcv xs i h
theorem Qcv {l:List Nat}:∀(xs:List A),∀i∈A.refsL (A.killL l xs),i∈A.refsL xs∧i∉l
 |[],i,h=>by simp[A.killL,A.refsL] at h
 |x::xs,i,h=>by
  simp only[A.killL,A.refsL,List.mem_append] at h ⊢
  rcases h with h|h
  ·have:=Qb9 x i h;exact⟨.inl this.1,this.2⟩
  ·have:=Qcv xs i h;exact⟨.inr this.1,this.2⟩
end
theorem Qdt {l:List Nat}:∀(o:O),∀i∈(o.kill l).refs,i∈o.refs∧i∉l
 |.box xs,i,h=>by simp only[O.kill,O.refs] at h ⊢;exact Qcv xs i h
 |.row _ _,i,h=>by simp[O.kill,O.refs] at h
 |.map _ _ _,i,h=>by simp[O.kill,O.refs] at h
 |.junk,i,h=>by simp[O.kill,O.refs] at h
 |.iter j _ _ _,i,h=>by
  simp only[O.kill] at h
  by_cases hj:j∈l
  ·simp[hj,O.refs] at h
  ·simp[hj,O.refs] at h;subst h;simp[O.refs,hj]
structure G where
 val:Option A
 upd:List (Nat×Option O)
 new:List Nat
def G.apply (g:G)(dst:Option Nat)(s:St):St:=
 { s with
  slots:=fun t=>match g.val with|some x=>if dst==some t then x else(s.slots t).kill g.new|none=>(s.slots t).kill g.new
  objs:=fun k=>match g.upd.lookup k with|some u=>u|none=>(s.objs k).map (O.kill g.new) }
def oRefs:List (Nat×Option O)→List Nat
 |[]=>[]
 |(_,some o)::l=>o.refs++oRefs l
 |(_,none)::l=>oRefs l
def G.keys (g:G):List Nat:=g.upd.map (·.1)++g.new
def G.refs (g:G):List Nat:=(match g.val with|some x=>x.refs|none=>[])++oRefs g.upd
def disj (l m:List Nat):Bool:=l.all fun i => !m.contains i
theorem Qbw {l m:List Nat}(h:disj l m=true):∀i∈l,i∉m:=by
 intro i hi;have:=List.all_eq_true.1 h i hi;simpa using this
theorem Qdj:∀{l:List (Nat×Option O)}{k:Nat}{o:O},l.lookup k=some (some o)→∀i∈o.refs,i∈oRefs l
 |(j,u)::l,k,o,h,i,hi=>by
  rw[List.lookup_cons] at h
  cases hk:(k==j) with
  |true=>rw[hk] at h;cases h;simp only[oRefs,List.mem_append];exact .inl hi
  |false=>
   rw[hk] at h
   have:=Qdj h i hi
   cases u with
   |some o'=>simp only[oRefs,List.mem_append];exact .inr this
   |none=>exact this
theorem Qd7 {l:List (Nat×Option O)}{k:Nat}{u:Option O}(h:l.lookup k=some u):k∈l.map (·.1):=by
 induction l with
 |nil=>simp at h
 |cons p l ih=>
  rw[List.lookup_cons] at h
  cases hk:(k==p.1) with
  |true=>simp at hk;simp[hk]
  |false=>rw[hk] at h;simp[ih h]
theorem G.comm {g h:G}{d e:Option Nat}(s:St) (hde:∀t,d=some t→e≠some t) (hk:∀i∈g.upd.map (·.1),i∉h.upd.map (·.1)) (hg:∀i∈g.refs,i∉h.new) (hh:∀i∈h.refs,i∉g.new):
  g.apply d (h.apply e s)=h.apply e (g.apply d s):=by
 have slot:∀t,(g.apply d (h.apply e s)).slots t=(h.apply e (g.apply d s)).slots t:=by
  intro t
  have gx:∀x,g.val=some x→x.kill h.new=x:=fun x hx=>kill_id x fun i hi=>hg i (by simp[G.refs,hx,hi])
  have hx:∀x,h.val=some x→x.kill g.new=x:=fun x hx=>kill_id x fun i hi=>hh i (by simp[G.refs,hx,hi])
  simp only[G.apply]
  cases hgv:g.val with
  |none=>
   simp only[]
   cases hhv:h.val with
   |none=>simp only[];exact Qdi _
   |some y=>
    simp only[]
    by_cases h1:e=some t
    ·simp[h1,hx y hhv]
    ·simp[h1,Qdi]
  |some x=>
   simp only[]
   cases hhv:h.val with
   |none=>
    simp only[]
    by_cases h1:d=some t
    ·simp[h1,gx x hgv]
    ·simp[h1,Qdi]
   |some y=>
    simp only[]
    by_cases h1:d=some t
    ·have h2:e≠some t:=hde t h1
     simp[h1,h2,gx x hgv]
    ·by_cases h2:e=some t
     ·simp[h1,h2,hx y hhv]
     ·simp[h1,h2,Qdi]
 have obj:∀k,(g.apply d (h.apply e s)).objs k=(h.apply e (g.apply d s)).objs k:=by
  intro k
  simp only[G.apply]
  cases h1:g.upd.lookup k with
  |some u=>
   have h2:h.upd.lookup k=none:=by
    cases h3:h.upd.lookup k with
    |none=>rfl
    |some v=>exact absurd (Qd7 h3) (hk k (Qd7 h1))
   simp only[h2]
   cases u with
   |none=>rfl
   |some o=>
    simp only[Option.map_some,Option.some.injEq]
    exact(Qeq o fun i hi=>hg i (by simp only[G.refs,List.mem_append];exact .inr (Qdj h1 i hi))).symm
  |none=>
   simp only[]
   cases h2:h.upd.lookup k with
   |some v=>
    simp only[]
    cases v with
    |none=>rfl
    |some o=>
     simp only[Option.map_some,Option.some.injEq]
     exact Qeq o fun i hi=>hh i (by simp only[G.refs,List.mem_append];exact .inr (Qdj h2 i hi))
   |none=>
    simp only[Option.map_map]
    congr 1
    funext o
    simp only[Function.comp]
    exact okill_comm o
 show(⟨(g.apply d (h.apply e s)).slots,(g.apply d (h.apply e s)).objs,s.base⟩:St)=⟨(h.apply e (g.apply d s)).slots,(h.apply e (g.apply d s)).objs,s.base⟩
 rw[funext slot,funext obj]
end Go.Ab
