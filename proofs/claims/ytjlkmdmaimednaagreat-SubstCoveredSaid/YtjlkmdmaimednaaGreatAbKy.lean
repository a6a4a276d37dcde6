import Derived.Test.YtjlkmdmaimednaaGreatAbR
import Derived.MapKept
set_option linter.unusedVariables false
set_option linter.unusedSimpArgs false
namespace Go.Ab
variable {P:Program} {w:World}
def plainKey:TypeDesc→Bool
 |.int _ | .string | .bool=>true
 |_=>false
def fitV:TypeDesc→Value→Bool
 |.int q,.int k _=>q==k
 |.string,.string _=>true
 |.bool,.bool _=>true
 |_,_=>false
def fitL (P:Program):List Field→Nat→List Value→Bool
 |[],_,[]=>true
 |f::fs,i,v::vs=>(f.offset==i&&f.name != "_" && (match P.underlying f.type with|some d=>fitV d v|none=>false))&&fitL P fs (i+1) vs
 |_,_,_=>false
def keyFits (P:Program):TypeDesc→Value→Bool
 |.struct fs,.agg xs=>fitL P fs.toList 0 xs.toList
 |.struct _,_=>false
 |kd,k=>fitV kd k
def isStructD:TypeDesc→Bool
 |.struct _=>true
 |_=>false
def keyT (P:Program)(kt:TypeId)(kd:TypeDesc):Bool:=plainKey kd||(isStructD kd && !P.stoodInHeld kt)
def samV:Value→Value→Option Bool
 |.int k a,.int k' b=>if k=k' then some (a==b) else none
 |.string a,.string b=>some (a==b)
 |.bool a,.bool b=>some (a==b)
 |_,_=>none
def samL:List Value→List Value→Option Bool
 |[],[]=>some true
 |x::xs,y::ys=>match samV x y,samL xs ys with
  |some r,some q=>some (r&&q)
  |_,_=>none
 |_,_=>none
def samK:TypeDesc→Value→Value→Option Bool
 |.struct _,.agg xs,.agg ys=>samL xs.toList ys.toList
 |.struct _,_,_=>none
 |kd,a,b=>Instr.sameNow kd a b
def nk:TypeDesc→TypeDesc
 |.struct _ => .struct #[]
 |kd=>kd
theorem samK_nk (kd:TypeDesc) (a b:Value):samK (nk kd) a b=samK kd a b:=by
 cases kd<;>simp[nk]<;>cases a<;>cases b<;>rfl
def findK (kd:TypeDesc)(k:Value):List MapEntry→Nat→Option (Option (Nat×Value))
 |[],_=>some none
 |e::es,i=>match samK kd k e.key with
  |some true=>some (some (i,e.val))
  |some false=>findK kd k es (i+1)
  |none=>none
theorem plain_samK {kd:TypeDesc}(h:plainKey kd=true) (a b:Value):samK kd a b=Instr.sameNow kd a b:=by
 cases kd<;>simp[plainKey] at h<;>rfl
theorem plain_findK {kd:TypeDesc}(h:plainKey kd=true) (k:Value):∀(l:List MapEntry)(i:Nat),findK kd k l i=Instr.findNow kd k l i
 |[],_=>rfl
 |e::es,i=>by
  unfold findK Instr.findNow
  rw[plain_samK h,plain_findK h k es (i+1)]
  cases Instr.sameNow kd k e.key with
  |none=>rfl
  |some b=>cases b<;>rfl
theorem plain_fit {kd:TypeDesc}(h:plainKey kd=true){k:Value}(hk:keyFits P kd k=true):MapKept.IsKey kd k:=by
 cases kd<;>cases k<;>simp_all [keyFits,fitV,MapKept.IsKey,plainKey]
theorem fitV_plain {d:TypeDesc}{v:Value}(h:fitV d v=true):plainKey d=true∧MapKept.IsKey d v:=by
 cases d<;>cases v<;>simp_all [fitV,plainKey,MapKept.IsKey]
theorem run_part1 {e:TypeId}{d:TypeDesc}(hu:P.underlying e=some d) (hp:plainKey d=true){xs:Array Value}{off:Nat}{v:Value}(hx:xs[off]? = some v) (w:World):(part e xs off).run P w = .ok v w:=by
 cases d<;>simp[plainKey] at hp<;>simp[part,isAgg,run_underlying hu,hx,Result.andThen]
theorem fitL_get:∀(fs:List Field)(i:Nat)(vs:List Value),fitL P fs i vs=true→∀f∈fs,f.name ≠ "_" ∧ ∃d v,P.underlying f.type=some d∧i≤f.offset∧vs[f.offset-i]? = some v∧fitV d v=true
 |[],_,_,_,f,hf=>by cases hf
 |g::fs,i,[],h,f,hf=>by simp[fitL] at h
 |g::fs,i,v::vs,h,f,hf=>by
  simp only[fitL,Bool.and_eq_true,beq_iff_eq,bne_iff_ne,ne_eq] at h
  obtain⟨⟨⟨h1,h2⟩,h3⟩,h4⟩:=h
  rcases List.mem_cons.1 hf with rfl|hf
  ·split at h3
   ·rename_i d hd
    exact⟨h2,d,v,hd,by omega,by rw[h1,Nat.sub_self];rfl,h3⟩
   ·cases h3
  ·obtain⟨q1,d,u,q2,q3,q4,q5⟩:=fitL_get fs (i+1) vs h4 f hf
   refine⟨q1,d,u,q2,by omega,?_,q5⟩
   rw[show f.offset-i=(f.offset-(i+1))+1 by omega]
   simpa using q4
theorem run_checks (e:Bool) (n:Nat) (xs:Array Value):∀(fs:List Field),(∀f∈fs,f.name ≠ "_" ∧ ∃d v,P.underlying f.type=some d∧xs[f.offset]? = some v∧fitV d v=true)→
  ∀w,(forIn fs PUnit.unit (fun f _=>if f.name ≠ "_" then(do
   let x ←part f.type xs f.offset
   Instr.checkKey e (n+1) f.type x
   pure (ForInStep.yield PUnit.unit)) else pure (ForInStep.yield PUnit.unit)):Sem PUnit).run P w = .ok PUnit.unit w
 |[],_,w=>by simp
 |f::fs,h,w=>by
  obtain⟨h1,d,v,h2,h3,h4⟩:=h f (by simp)
  obtain⟨hp,hk⟩:=fitV_plain h4
  have:=run_checks e n xs fs (fun g hg=>h g (by simp[hg])) w
  simp only[List.forIn_cons,ne_eq,h1,not_false_eq_true,if_true,Sem.run_bind,run_part1 h2 hp h3,Result.andThen,MapKept.run_checkKey h2 hk e n,Sem.run_pure]
  exact this
theorem Qds {kt:TypeId}{kd:TypeDesc}{k:Value}(hu:P.underlying kt=some kd) (ht:keyT P kt kd=true) (hf:keyFits P kd k=true) (e:Bool):(Instr.checkKey e 10000 kt k).run P w = .ok () w:=by
 by_cases hp:plainKey kd=true
 ·exact MapKept.run_checkKey hu (plain_fit hp hf) e 9999
 ·cases kd with
  |struct fs=>
   cases k with
   |agg xs=>
    simp only[keyFits] at hf
    have hg:=fitL_get fs.toList 0 xs.toList hf
    have:=run_checks (P:=P) e 9998 xs fs.toList (fun f hf=>by
     obtain⟨q1,d,v,q2,_,q4,q5⟩:=hg f hf
     exact⟨q1,d,v,q2,by simpa using q4,q5⟩) w
    show(Instr.checkKey e (9999+1) kt (.agg xs)).run P w=_
    unfold Instr.checkKey
    simp only[Sem.run_bind,run_underlying hu,Result.andThen]
    rw[←Array.forIn_toList]
    rw[this]
    rfl
   |_=>simp[keyFits] at hf
  |_=>simp_all [keyT,isStructD,plainKey]
theorem toList_inj {x y:ByteArray}(h:x.toList=y.toList):x=y:=by
 rw[ByteArray.toList_eq,ByteArray.toList_eq] at h
 cases x with|mk a=>cases y with|mk b=>exact congrArg ByteArray.mk (Array.toList_inj.1 h)
theorem samV_eq {e:TypeId}{d:TypeDesc}(hu:P.underlying e=some d){x y:Value}{b:Bool}(hf:fitV d x=true) (h:samV x y=some b) (m:Nat) (w:World):(Op.equalIn (m+1) e x y).run P w = .ok b w∧True:=by
 refine⟨?_,trivial⟩
 cases d<;>cases x<;>simp[fitV] at hf<;>cases y<;>simp[samV] at h
 ·subst h;exact run_equalIn_bool w m e _ _ hu
 ·obtain⟨rfl,rfl⟩:=h;exact run_equalIn_int w m e _ _ _ _ hu
 ·subst h
  rw[run_equalIn_string w m e _ _ hu]
  congr 1
  rw[Bool.eq_iff_iff,MapKept.bytes_beq]
  exact⟨fun h=>toList_inj (by simpa using h),fun h=>by rw[h];simp⟩
theorem eqF_run (m:Nat) (xs ys:Array Value):∀(fs:List Field)(i:Nat)(vs us:List Value)(b:Bool)(w:World),fitL P fs i vs=true→samL vs us=some b→(∀j,xs[i+j]? = vs[j]?)→(∀j,ys[i+j]? = us[j]?)→
  (Op.eqFields (m+1) xs ys fs).run P w = .ok b w
 |[],i,[],[],b,w,_,h,_,_=>by simp[samL] at h;subst h;simp[Op.eqFields]
 |[],i,_::_,_,b,w,h,_,_,_=>by simp[fitL] at h
 |[],i,[],_::_,b,w,_,h,_,_=>by simp[samL] at h
 |f::fs,i,[],_,b,w,h,_,_,_=>by simp[fitL] at h
 |f::fs,i,_::_,[],b,w,_,h,_,_=>by simp[samL] at h
 |f::fs,i,v::vs,u::us,b,w,h,hs,hx,hy=>by
  simp only[fitL,Bool.and_eq_true,beq_iff_eq,bne_iff_ne,ne_eq] at h
  obtain⟨⟨⟨h1,h2⟩,h3⟩,h4⟩:=h
  split at h3
  ·rename_i d hd
   simp only[samL] at hs
   split at hs
   ·rename_i r q e1 e2
    cases hs
    have hp:=(fitV_plain h3).1
    have x0:xs[f.offset]? = some v:=by rw[h1];simpa using hx 0
    have y0:ys[f.offset]? = some u:=by rw[h1];simpa using hy 0
    have e3:=(samV_eq hd h3 e1 m w).1
    have e4:=eqF_run m xs ys fs (i+1) vs us q w h4 e2 (fun j=>by have:=hx (j+1);rw[show i+(j+1)=i+1+j by omega] at this;simpa using this) (fun j=>by have:=hy (j+1);rw[show i+(j+1)=i+1+j by omega] at this;simpa using this)
    simp only[Op.eqFields,ne_eq,h2,not_false_eq_true,if_true,Sem.run_bind,run_part1 hd hp x0,run_part1 hd hp y0,Result.andThen_ok,e3]
    cases r
    ·simp
    ·simpa using e4
   ·cases hs
  ·cases h3
theorem run_equalK {kt:TypeId}{kd:TypeDesc}{k k':Value}(hu:P.underlying kt=some kd) (ht:keyT P kt kd=true) (hf:keyFits P kd k=true) (hs:isStructD kd=true){b:Bool}(h:samK kd k k'=some b) (w:World):(Op.equal kt k k').run P w = .ok b w:=by
 cases kd with
 |struct fs=>
  cases k with
  |agg xs=>
   cases k' with
   |agg ys=>
    simp only[keyFits] at hf
    simp only[samK] at h
    have hst:P.stoodInHeld kt=false:=by simpa[keyT,plainKey,isStructD] using ht
    have hfo:P.fieldsOf kt=fs:=by simp[Program.fieldsOf,hu]
    show(Op.equalIn (9999+1) kt _ _).run P w=_
    rw[run_equalIn_struct w 9999 kt xs ys (by rw[hfo];exact hu) hst,hfo]
    exact eqF_run 9998 xs ys fs.toList 0 xs.toList ys.toList b w hf h (fun j=>by simp) (fun j=>by simp)
   |_=>simp[samK] at h
  |_=>simp[keyFits] at hf
 |_=>simp[isStructD] at hs
theorem run_asking {kt:TypeId}{kd:TypeDesc}{k:Value}(hu:P.underlying kt=some kd) (ht:keyT P kt kd=true) (hf:keyFits P kd k=true) (hs:isStructD kd=true):∀(l:List MapEntry)(i:Nat)(a:Option (Nat×Value)) (w:World),findK kd k l i=some a→(Instr.findAsking kt k l i).run P w = .ok a w
 |[],i,a,w,h=>by simp[findK] at h;subst h;simp[Instr.findAsking]
 |e::es,i,a,w,h=>by
  unfold findK at h
  split at h
  ·rename_i he
   cases h
   simp[Instr.findAsking,run_equalK hu ht hf hs he,Result.andThen]
  ·rename_i he
   have:=run_asking hu ht hf hs es (i+1) a w h
   simp[Instr.findAsking,run_equalK hu ht hf hs he,Result.andThen,this]
  ·cases h
theorem Qb8 {kt:TypeId}{kd:TypeDesc}{k:Value}{l:List MapEntry}{a:Option (Nat×Value)}(hu:P.underlying kt=some kd) (ht:keyT P kt kd=true) (hf:keyFits P kd k=true) (h:findK kd k l 0=some a):(Instr.findKey kt k l).run P w = .ok a w:=by
 by_cases hp:plainKey kd=true
 ·rw[plain_findK hp] at h;exact MapKept.run_findKey hu h
 ·have hs:isStructD kd=true:=by
   simp only[keyT,Bool.or_eq_true,Bool.and_eq_true] at ht
   rcases ht with ht|ht
   ·exact absurd ht hp
   ·exact ht.1
  cases l with
  |nil=>simp[findK] at h;subst h;simp[Instr.findKey,run_underlying hu,Result.andThen,Instr.findNow]
  |cons e es=>
   have hn:Instr.findNow kd k (e::es) 0=none:=by
    cases kd<;>simp[isStructD] at hs
    simp[Instr.findNow,Instr.sameNow]
   simp[Instr.findKey,run_underlying hu,Result.andThen,hn,run_asking hu ht hf hs _ _ _ _ h]
theorem samV_bits {x y:Value}(h:samV x y=some true) (n:Nat):Instr.sameBits n y x=true:=by
 cases x<;>cases y<;>simp_all [samV,Instr.sameBits]
 case string.string y z=>exact(MapKept.bytes_beq _ _).2 ((MapKept.bytes_beq _ _).1 h).symm
theorem samL_bits:∀(xs ys:List Value),samL xs ys=some true→∀n,ys.length=xs.length∧(ys.zip xs).all (fun p=>Instr.sameBits n p.1 p.2)=true
 |[],[],_,n=>by simp
 |[],_::_,h,_=>by simp[samL] at h
 |_::_,[],h,_=>by simp[samL] at h
 |x::xs,y::ys,h,n=>by
  simp only[samL] at h
  split at h
  ·rename_i r q e1 e2
   simp only[Option.some.injEq,Bool.and_eq_true] at h
   obtain⟨rfl,rfl⟩:=h
   obtain⟨h1,h2⟩:=samL_bits xs ys e2 n
   refine⟨by simp[h1],?_⟩
   simp only[List.zip_cons_cons,List.all_cons,h2,Bool.and_true]
   exact samV_bits e1 n
  ·cases h
theorem sameBits_of {kd:TypeDesc}{k k':Value}(h:samK kd k k'=some true):Instr.sameBits 10000 k' k=true:=by
 cases kd with
 |struct fs=>
  cases k<;>cases k'<;>simp[samK] at h
  obtain⟨h1,h2⟩:=samL_bits _ _ h 9999
  show Instr.sameBits (9999+1) _ _=true
  simp only[Instr.sameBits,Bool.and_eq_true,beq_iff_eq]
  exact⟨by simpa using h1,h2⟩
 |_=>
  cases k<;>cases k'<;>simp_all [samK,Instr.sameNow,Instr.sameBits]
  try (rw[MapKept.bytes_beq] at h ⊢;exact h.symm)
end Go.Ab
