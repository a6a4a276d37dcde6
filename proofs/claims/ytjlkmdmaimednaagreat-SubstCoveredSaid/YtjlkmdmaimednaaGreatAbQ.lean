import Derived.Test.YtjlkmdmaimednaaGreatAbK
set_option linter.unusedVariables false
set_option linter.unusedSimpArgs false
namespace Go.Ab
variable {P:Program}
theorem Con.split {f:FuncId}{m:Nat}{rows:List (List T)}{xs:List A}{os:List (Nat×O)}{R:A→List (Nat×O)→Prop}
  (h1:rows=[]→Con P f (.t (.v (.slice none 0 0))::xs) os R) (h2:Con P f (.t (.sn m rows)::xs) os R):Con P f (.t (.sl m rows)::xs) os R:=by
 refine⟨h2.enter,fun hid ρ w us hh hr => ?_⟩
 simp only[relAs] at hr
 obtain⟨u,us',rfl,hu,hr⟩:=hr
 simp only[relA,rep] at hu
 rcases hu with⟨h3,h4|h4⟩|h3
 ·exact(h1 h3).out hid ρ w _ hh (by simp only[relAs];exact⟨u,us',rfl,by simp only[relA,rep];exact h4,hr⟩)
 ·exact h2.out hid ρ w _ hh (by simp only[relAs];exact⟨u,us',rfl,by simp only[relA,rep];exact .inl ⟨h3,h4⟩,hr⟩)
 ·exact h2.out hid ρ w _ hh (by simp only[relAs];exact⟨u,us',rfl,by simp only[relA,rep];exact .inr h3,hr⟩)
def renO (i j:Nat)(os:List (Nat×O)):List (Nat×O):=os.map fun p=>(if p.1=i then j else p.1,p.2.ren i j)
theorem ofO_ren {i j:Nat}:∀{os:List (Nat×O)},ofO os j=none→∀k,ofO (renO i j os) k=if k=j then(ofO os i).map (O.ren i j) else if k=i then none else(ofO os k).map (O.ren i j)
 |[],_,k=>by simp[renO,ofO]
 |(n,o)::os,hj,k=>by
  have hnj:(j==n)=false:=by
   cases hb:(j==n) with
   |false=>rfl
   |true=>simp only[ofO,List.lookup_cons,hb] at hj;cases hj
  have hj':ofO os j=none:=by simpa only[ofO,List.lookup_cons,hnj] using hj
  have ih:=ofO_ren (i:=i) hj' k
  have hnj':j≠n:=by simpa using hnj
  simp only[renO,List.map_cons,ofO,List.lookup_cons] at ih ⊢
  by_cases hni:n=i
  ·subst hni
   rw[if_pos rfl]
   by_cases hk:k=j
   ·subst hk;simp
   ·have e:(k==j)=false:=by simpa using hk
    rw[e]
    rw[ih,if_neg hk,if_neg hk]
    by_cases hkn:k=n
    ·simp[hkn]
    ·have e2:(k==n)=false:=by simpa using hkn
     rw[if_neg hkn,if_neg hkn,e2]
  ·rw[if_neg hni]
   by_cases hk:k=n
   ·subst hk
    have e3:k≠j:=fun e=>hnj' e.symm
    simp[e3,hni]
   ·have e:(k==n)=false:=by simpa using hk
    have e4:(i==n)=false:=by simpa using fun e=>hni e.symm
    rw[e,ih,e4]
theorem Con.ren {f:FuncId}{xs:List A}{r0:A}{os0:List (Nat×O)}(i j:Nat) (hij:i≠j) (hj:ofO os0 j=none) (h:Con P f xs [] (fun r os=>r=r0∧os=os0)):
  Con P f xs [] (fun r os=>r=r0.ren i j∧os=renO i j os0):=by
 refine⟨h.enter,fun hid ρ w us hh hr=>(h.out hid ρ w us hh hr).mono ?_⟩
 rintro e w' ⟨r,os',σ,u,⟨rfl,rfl⟩,he,h1,h2,h3,_⟩
 have hσj:(fun k=>if k=j then σ i else σ k) j=σ i:=by simp
 have hσ:∀k,k≠j→(fun k=>if k=j then σ i else σ k) k=σ k:=fun k hk=>by simp[hk]
 have hof:=ofO_ren (i:=i) hj
 have hown:own (fun k=>if k=j then σ i else σ k) (ofO (renO i j os'))=own σ (ofO os'):=by
  funext b
  simp only[own,hof,eq_iff_iff]
  constructor
  ·rintro ⟨k,hk,hb⟩
   by_cases hkj:k=j
   ·subst hkj;simp at hk hb;exact⟨i,by simpa using hk,hb⟩
   ·simp only[hkj,if_false] at hk hb
    split at hk
    ·cases hk
    ·exact⟨k,by simpa using hk,hb⟩
  ·rintro ⟨k,hk,hb⟩
   by_cases hki:k=i
   ·subst hki;exact⟨j,by simpa using hk,by simpa using hb⟩
   ·have hkj:k≠j:=fun e=>by rw[e,hj] at hk;cases hk
    exact⟨k,by simp[hkj,hki];simpa using hk,by simpa[hkj] using hb⟩
 refine⟨r.ren i j,renO i j os',fun k=>if k=j then σ i else σ k,u,⟨rfl,rfl⟩,he,⟨fun k o hk => ?_,fun k l b hk hl hkb hlb => ?_,by rw[hown];exact h1.nhid,h1.hlt⟩,?_,by rw[hown];exact h3,fun k hk=>by simp[ofO] at hk⟩
 ·rw[hof] at hk
  rw[hown]
  by_cases hkj:k=j
  ·subst hkj
   simp only[if_true,Option.map_eq_some_iff] at hk ⊢
   obtain⟨o0,ho0,rfl⟩:=hk
   exact Qf9 hσj hσ o0 (h1.obj i o0 ho0)
  ·simp only[hkj,if_false] at hk ⊢
   split at hk
   ·cases hk
   ·simp only[Option.map_eq_some_iff] at hk
    obtain⟨o0,ho0,rfl⟩:=hk
    exact Qf9 hσj hσ o0 (h1.obj k o0 ho0)
 ·have up:∀k,(ofO (renO i j os') k).isSome=true→∃k',(ofO os' k').isSome=true∧(fun k=>if k=j then σ i else σ k) k=σ k'∧((k=j∧k'=i)∨(k≠j∧k≠i∧k'=k)):=by
   intro k hk
   rw[hof] at hk
   by_cases hkj:k=j
   ·subst hkj;exact⟨i,by simpa using hk,by simp,.inl ⟨rfl,rfl⟩⟩
   ·simp only[hkj,if_false] at hk
    split at hk
    ·cases hk
    ·rename_i hki;exact⟨k,by simpa using hk,by simp[hkj],.inr ⟨hkj,hki,rfl⟩⟩
  obtain⟨k',g1,g2,g3⟩:=up k hk
  obtain⟨l',g4,g5,g6⟩:=up l hl
  have hkb:blockOf (σ k')=some b:=by rw[←g2];exact hkb
  have hlb:blockOf (σ l')=some b:=by rw[←g5];exact hlb
  have:=h1.dis k' l' b g1 g4 hkb hlb
  subst this
  rcases g3 with⟨rfl,rfl⟩|⟨a1,a2,rfl⟩
  ·rcases g6 with⟨rfl,_⟩|⟨b1,b2,b3⟩
   ·rfl
   ·exact absurd b3.symm b2
  ·rcases g6 with⟨b0,b1⟩|⟨b1,b2,b3⟩
   ·exact absurd b1 a2
   ·exact b3.symm ▸ rfl
 ·rw[hown];exact relA_ren hσj hσ _ _ h2
def LeA (x y:A):Prop:=∀ρ C u,relA ρ C x u→relA ρ C y u
def LeL (xs ys:List A):Prop:=∀ρ C us,relAs ρ C xs us→relAs ρ C ys us
theorem LeA.refl (x:A):LeA x x:=fun _ _ _ h=>h
theorem LeA.nil (m:Nat):LeA (.t (.v (.slice none 0 0))) (.t (.sl m [])):=fun _ _ _ h=>by
 simp only[relA,rep] at h ⊢;exact .inl ⟨trivial,.inl h⟩
theorem LeL.nil:LeL [] []:=fun _ _ _ h=>h
theorem LeL.cons {x y:A}{xs ys:List A}(h:LeA x y) (hs:LeL xs ys):LeL (x::xs) (y::ys):=fun ρ C us hr=>by
 simp only[relAs] at hr ⊢
 obtain⟨u,us',h1,h2,h3⟩:=hr
 exact⟨u,us',h1,h _ _ _ h2,hs _ _ _ h3⟩
theorem LeA.agg {xs ys:List A}(h:LeL xs ys):LeA (.agg xs) (.agg ys):=fun ρ C u hr=>by
 simp only[relA] at hr ⊢
 obtain⟨cs,h1,h2⟩:=hr
 exact⟨cs,h1,h _ _ _ h2⟩
theorem LeA.tup {xs ys:List A}(h:LeL xs ys):LeA (.tup xs) (.tup ys):=fun ρ C u hr=>by
 simp only[relA] at hr ⊢
 obtain⟨cs,h1,h2⟩:=hr
 exact⟨cs,h1,h _ _ _ h2⟩
theorem Con.res {f:FuncId}{xs:List A}{os:List (Nat×O)}{x y:A}{os1:List (Nat×O)}(hl:LeA x y) (h:Con P f xs os (fun r os'=>r=x∧os'=os1)):Con P f xs os (fun r os'=>r=y∧os'=os1):=by
 refine⟨h.enter,fun hid ρ w us hh hr=>(h.out hid ρ w us hh hr).mono ?_⟩
 rintro e w' ⟨r,os',σ,u,⟨rfl,rfl⟩,he,h1,h2,h3,h4⟩
 exact⟨_,_,σ,u,⟨rfl,rfl⟩,he,h1,hl _ _ _ h2,h3,h4⟩
theorem Con.args {f:FuncId}{xs ys:List A}{os:List (Nat×O)}{R:A→List (Nat×O)→Prop}(hl:LeL xs ys) (h:Con P f ys os R):Con P f xs os R:=
 ⟨h.enter,fun hid ρ w us hh hr=>h.out hid ρ w us hh (hl _ _ _ hr)⟩
end Go.Ab
