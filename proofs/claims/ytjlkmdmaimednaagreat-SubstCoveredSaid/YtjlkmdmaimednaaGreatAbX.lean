import Derived.Test.YtjlkmdmaimednaaGreatAbV
set_option linter.unusedVariables false
set_option linter.unusedSimpArgs false
namespace Go.Ab
class KeyOk (kd:TypeDesc) {κ:Type} [DecidableEq κ] (ek:κ→Value):Prop where
 same:∀a b:κ,samK kd (ek a) (ek b)=some (decide (a=b))
instance (k:IntKind):KeyOk (.int k) (kI k):=⟨fun a b=>by
 simp only[kI,samK,Instr.sameNow,beq_self_eq_true,Bool.and_self,if_true]
 by_cases h:a=b
 ·simp[h]
 ·simp[h]⟩
theorem ba_beq (a b:ByteArray):(a==b)=decide (a=b):=by
 by_cases h:a=b
 ·rw[decide_eq_true h,h];show(b.data==b.data)=true;simp
 ·rw[decide_eq_false h]
  apply Bool.eq_false_iff.2
  intro h2
  have h3:a.data=b.data:=by have:(a.data==b.data)=true:=h2;simpa using this
  exact h (by cases a;cases b;simp_all)
instance:KeyOk .string kS:=⟨fun a b=>by
 simp only[kS,samK,Instr.sameNow];rw[ba_beq]⟩
section
variable {κ ν:Type} [DecidableEq κ]
def getL (k:κ):List (κ×Nat×ν)→Option ν
 |[]=>none
 |x::l=>if k=x.1 then some x.2.2 else getL k l
def putL (k:κ)(v:ν)(c:Nat):List (κ×Nat×ν)→List (κ×Nat×ν)
 |[]=>[(k,c,v)]
 |x::l=>if k=x.1 then(k,x.2.1,v)::l else x::putL k v c l
def delL (k:κ):List (κ×Nat×ν)→List (κ×Nat×ν)
 |[]=>[]
 |x::l=>if k=x.1 then l else x::delL k l
def GM.get? (m:GM κ ν)(k:κ):Option ν:=getL k m.es
def GM.getD (m:GM κ ν)(k:κ)(z:ν):ν:=(m.get? k).getD z
def GM.put (m:GM κ ν)(k:κ)(v:ν):GM κ ν:=⟨if (m.get? k).isSome then m.clock else m.clock+1,putL k v m.clock m.es⟩
variable {kd:TypeDesc} {ek:κ→Value} [hk:KeyOk kd ek] {ev:ν→List T}
theorem Qey {k:κ}:∀(l:List (κ×Nat×ν)) (i:Nat),getL k l=none→getE kd (ek k) (l.map (encE ek ev)) i=some none∧(∀v c,putL k v c l=l++[(k,c,v)])∧delL k l=l
 |[],i,_=>⟨rfl,fun _ _=>rfl,rfl⟩
 |x::l,i,h=>by
  simp only[getL] at h
  split at h
  ·cases h
  ·rename_i hx
   obtain⟨h1,h2,h3⟩:=Qey l (i+1) h
   refine⟨?_,fun v c => ?_,?_⟩
   ·simp only[List.map_cons,getE,encE];rw[hk.same,decide_eq_false hx];exact h1
   ·simp only[putL];rw[if_neg hx,h2,List.cons_append]
   ·simp only[delL];rw[if_neg hx,h3]
theorem getE_some {k:κ}{v:ν}:∀(l:List (κ×Nat×ν)) (i:Nat),getL k l=some v→∃n b,getE kd (ek k) (l.map (encE ek ev)) i=some (some (i+n,⟨ek k,b,ev v⟩))∧l[n]? = some (k,b,v)∧(∀v' c,putL k v' c l=l.set n (k,b,v'))∧delL k l=l.eraseIdx n
 |[],i,h=>by cases h
 |x::l,i,h=>by
  simp only[getL] at h
  split at h
  ·rename_i hx
   obtain⟨k',b,v'⟩:=x
   cases h
   simp only at hx;subst hx
   exact⟨0,b,by simp only[List.map_cons,getE,encE];rw[hk.same,decide_eq_true rfl];rfl,rfl,fun v' c=>by simp[putL],by simp[delL]⟩
  ·rename_i hx
   obtain⟨n,b,h1,h2,h3,h4⟩:=getE_some l (i+1) h
   refine⟨n+1,b,?_,h2,fun v' c => ?_,?_⟩
   ·simp only[List.map_cons,getE,encE];rw[hk.same,decide_eq_false hx]
    show getE kd (ek k) _ (i+1)=_
    rw[h1];congr 3;omega
   ·simp only[putL];rw[if_neg hx,h3];rfl
   ·simp only[delL];rw[if_neg hx,h4];rfl
theorem Look.i {z:ν}{m:GM κ ν}{k:κ}{K:Prop}(c:K):Look kd ek ev z m k (m.getD k z) (m.get? k).isSome K:=by
 refine⟨?_,c⟩
 unfold LookE GM.getD
 cases h:m.get? k with
 |none=>rw[show getE kd (ek k) (m.ents ek ev) 0=some none from(Qey m.es 0 h).1];exact⟨rfl,rfl⟩
 |some v=>obtain⟨n,b,h1,_⟩:=getE_some (kd:=kd) (ek:=ek) (ev:=ev) m.es 0 h;rw[show getE kd (ek k) (m.ents ek ev) 0=_ from h1];exact⟨rfl,rfl⟩
theorem Put.i {m:GM κ ν}{k:κ}{v:ν}{K:Prop}(c:K):Put kd ek ev m k v (m.put k v) K:=by
 refine⟨?_,c⟩
 unfold PutE GM.put
 cases h:m.get? k with
 |none=>
  rw[show getE kd (ek k) (m.ents ek ev) 0=some none from(Qey m.es 0 h).1]
  refine⟨rfl,?_⟩
  simp only[GM.ents];rw[(Qey (kd:=kd) (ek:=ek) (ev:=ev) m.es 0 h).2.1,List.map_append];rfl
 |some v0=>
  obtain⟨n,b,h1,h2,h3,_⟩:=getE_some (kd:=kd) (ek:=ek) (ev:=ev) m.es 0 h
  rw[show getE kd (ek k) (m.ents ek ev) 0=_ from h1]
  refine⟨rfl,?_⟩
  simp only[GM.ents];rw[h3,List.map_set,Nat.zero_add];rfl
end
def CutX {α:Type}(f:α→List T)(l:List α)(i:Int)(K:Prop):Prop:=(i=(i.toNat:Int)∧(l.map f).length=(l.map f).length∧i.toNat≤(l.map f).length)∧K
theorem CutX.i {α:Type}{f:α→List T}{l:List α}{i:Int}{K:Prop}(h:0≤i∧i≤l.length) (c:K):CutX f l i K:=⟨⟨(Int.toNat_of_nonneg h.1).symm,rfl,by rw[List.length_map];omega⟩,c⟩
def CloneR {α:Type}(P:Program)(f:FuncId)(m:Nat)(enc:α→List T)(a v:List α):Prop:=
 Con P f [.t (.sl m (a.map enc))] [] (fun r_ o_=>r_ = .ref 1600∧o_=[(1600,.row m (v.map enc))])
def InsR {α:Type}(P:Program)(f:FuncId)(m:Nat)(enc:α→List T)(a:List α)(i:Int)(x:List α)(v:List α):Prop:=
 Con P f [.ref 620,.t (i64 i),.ref 622] [(620,.row m (a.map enc)),(622,.row m (x.map enc))] (fun r_ o_=>r_ = .ref 1600∧o_=[(1600,.row m (v.map enc))])
def DelR {α:Type}(P:Program)(f m:Nat)(enc:α→List T)(a:List α)(i j:Int)(v:List α):Prop:=
 Con P f [.ref 620,.t (i64 i),.t (i64 j)] [(620,.row m (a.map enc))] (fun r_ o_=>r_ = .ref 1600∧o_=[(1600,.row m (v.map enc))])
end Go.Ab
