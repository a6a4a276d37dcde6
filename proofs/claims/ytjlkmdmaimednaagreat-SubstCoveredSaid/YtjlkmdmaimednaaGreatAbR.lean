import Derived.Test.YtjlkmdmaimednaaGreatAbI
set_option linter.unusedVariables false
set_option linter.unusedSimpArgs false
namespace Go.Ab
variable {P:Program} {B:Base} {s:St} {a:Act} {w:World} {ρ:Nat→Value}
mutual
def A.frz (j m:Nat)(rows:List (List T)):A→A
 |.ref i=>if i==j then .t (.sl m rows) else .ref i
 |.elt i k m' off=>if i==j then .dead else .elt i k m' off
 |.at i off=>if i==j then .dead else .at i off
 |.agg xs => .agg (A.frzL j m rows xs)
 |.tup xs => .tup (A.frzL j m rows xs)
 |.fn f xs => .fn f (A.frzL j m rows xs)
 |.t x => .t x
 |.dead => .dead
def A.frzL (j m:Nat)(rows:List (List T)):List A→List A
 |[]=>[]
 |x::xs=>A.frz j m rows x::A.frzL j m rows xs
end
mutual
theorem relA_frz {C:View}{j m:Nat}{rows:List (List T)}(h:rep C (.sl m rows) (ρ j)):∀(x:A)(u:Value),relA ρ C x u→relA ρ C (x.frz j m rows) u
 |.dead,_,_=>by simp only[A.frz,relA]
 |.t x,u,hr=>by simpa only[A.frz,relA] using hr
 |.agg xs,u,hr=>by simp only[A.frz,relA] at hr ⊢;obtain⟨cs,h1,h2⟩:=hr;exact⟨cs,h1,Qdf h xs _ h2⟩
 |.ref i,u,hr=>by
  simp only[A.frz]
  by_cases hi:i=j
  ·subst hi;simp only[relA] at hr;simp only[beq_self_eq_true,if_true,relA];rw[hr];exact h
  ·simp[hi];exact hr
 |.at i off,u,hr=>by
  simp only[A.frz]
  by_cases hi:i=j
  ·simp[hi,relA]
  ·simp[hi];exact hr
 |.elt i k m' off,u,hr=>by
  simp only[A.frz]
  by_cases hi:i=j
  ·simp[hi,relA]
  ·simp[hi];exact hr
 |.tup xs,u,hr=>by simp only[A.frz,relA] at hr ⊢;obtain⟨cs,h1,h2⟩:=hr;exact⟨cs,h1,Qdf h xs _ h2⟩
 |.fn f xs,u,hr=>by simp only[A.frz,relA] at hr ⊢;obtain⟨cs,h1,h2⟩:=hr;exact⟨cs,h1,Qdf h xs _ h2⟩
theorem Qdf {C:View}{j m:Nat}{rows:List (List T)}(h:rep C (.sl m rows) (ρ j)):∀(xs:List A)(us:List Value),relAs ρ C xs us→relAs ρ C (A.frzL j m rows xs) us
 |[],us,hr=>by simpa only[A.frzL,relAs] using hr
 |x::xs,us,hr=>by
  simp only[A.frzL,relAs] at hr ⊢
  obtain⟨u,us',h1,h2,h3⟩:=hr
  exact⟨u,us',h1,relA_frz h x u h2,Qdf h xs us' h3⟩
end
def O.frz (j m:Nat)(rows:List (List T)):O→O
 |.box xs => .box (A.frzL j m rows xs)
 |o=>o
def St.frz (s:St)(j:Nat):St:=
 match s.objs j with
 |some (.row m rows)=>{ s with slots:=fun i=>(s.slots i).frz j m rows,objs:=fun i=>if i==j then none else(s.objs i).map (O.frz j m rows) }
 |_=>s
theorem Rel.frz (h:Rel B s a w ρ) (j:Nat):Rel B (s.frz j) a w ρ:=by
 unfold St.frz
 split
 ·rename_i m rows hj
  have hdrop:=h.weak (s':=s.drop j) rfl (fun i => .inl rfl) (fun i=>by
   simp only[St.drop]
   by_cases hi:i=j
   ·simp[hi]
   ·simp[hi])
  have hrep:rep (view B.hid (own ρ (s.drop j).objs) w) (.sl m rows) (ρ j):=by
   have hle:(view B.hid (own ρ s.objs) w).le (view B.hid (own ρ (s.drop j).objs) w):=by
    intro b o c hc
    rw[Qae] at hc ⊢
    refine⟨fun⟨i,hi,hb⟩=>hc.1 ⟨i,?_,hb⟩,hc.2⟩
    simp only[St.drop] at hi
    split at hi
    ·cases hi
    ·exact hi
   rcases h.heap.obj j _ hj with⟨h1,h2⟩|⟨b,cap,cur,e,h1,h2,h3,h4,h5,h6,h6c⟩
   ·simp only[rep];exact .inl ⟨h1,Qfj h2⟩
   ·simp only[rep]
    refine .inr ⟨b,0,cap,h1,h3,h4,Qad hle m rows _ _ 0 (fun o c hc => ?_) h6⟩
    rw[Qae]
    refine⟨fun⟨i,hi,hb⟩ => ?_,h.heap.nhid b ⟨j,by simp[hj],by rw[h1];exact Qah h6c⟩,by rw[cell_of_row w b o cur e (0,0) h2];exact hc⟩
    simp only[St.drop] at hi
    split at hi
    ·cases hi
    ·rename_i hij
     have:=h.heap.dis i j b hi (by simp[hj]) hb (by rw[h1];exact Qah h6c)
     exact hij (by simp[this])
  have hobjs:∀i,((if i==j then none else(s.objs i).map (O.frz j m rows)):Option O).isSome=((s.drop j).objs i).isSome:=by
   intro i
   simp only[St.drop]
   split<;>simp
  have hown:own ρ (fun i=>if i==j then none else(s.objs i).map (O.frz j m rows))=own ρ (s.drop j).objs:=by
   funext b
   simp only[own,hobjs]
  refine⟨⟨fun i o hi => ?_,fun i k b hi hk => ?_,fun b hb => ?_,h.heap.hlt⟩,?_,fun i => ?_,h.keep,h.n,h.defers,h.base⟩
  ·simp only at hi
   split at hi
   ·cases hi
   ·rename_i hij
    simp only[Option.map_eq_some_iff] at hi
    obtain⟨o0,h1,rfl⟩:=hi
    have h2:=hdrop.heap.obj i o0 (by simp only[St.drop,hij];exact h1)
    simp only[hown]
    cases o0 with
    |box xs=>obtain⟨b,cur,e,h3,h4,h5⟩:=h2;exact⟨b,cur,e,h3,h4,Qdf hrep xs _ h5⟩
    |row m' rows'=>exact h2
    |map _ _ _=>exact h2
    |iter _ _ _ _=>exact h2
    |junk=>exact h2
  ·rw[hobjs] at hi hk;exact hdrop.heap.dis i k b hi hk
  ·simp only[hown] at hb;exact hdrop.heap.nhid b hb
  ·simp only[hown];exact hdrop.frm
  ·simp only[hown];exact relA_frz hrep _ _ (hdrop.slots i)
 ·exact h
end Go.Ab
