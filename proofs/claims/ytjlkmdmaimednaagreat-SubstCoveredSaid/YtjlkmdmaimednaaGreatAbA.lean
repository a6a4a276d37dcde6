import Derived.Calls
import Derived.Below
import Derived.RangeFuncLeaves
import Derived.OrdersIn
import Derived.RangeFuncRecord
import Derived.Deep.MidRow
import Derived.Deep.Draws
import Derived.Laws.AppendOwn
import Derived.Laws.MakeOwn
import Derived.Laws.OwnMore
set_option linter.unusedVariables false
set_option linter.unusedSimpArgs false
namespace Go.Ab
inductive T where
 |v (x:Value)
 |sl (m:Nat) (rows:List (List T))
 |sn (m:Nat) (rows:List (List T))
 |pt (cells:List T)
instance:Inhabited T:=⟨.v undef⟩
abbrev i64 (n:Int):T := .v (.int .i64 n)
abbrev str (s:ByteArray):T := .v (.string s)
abbrev boo (b:Bool):T := .v (.bool b)
abbrev View:=Nat→Nat→Option Value
def emptySl (u:Value):Prop:=u = .slice none 0 0∨∃ad cap,u = .slice (some ad) 0 cap∧cap≤maxLen
mutual
def rep (C:View):T→Value→Prop
 |.v x,u=>u=x
 |.sl m rows,u=>(rows=[]∧emptySl u)∨∃b off cap,u = .slice (some ⟨b,off,none⟩) rows.length cap∧rows.length≤cap∧cap≤maxLen∧repRows C m rows (C b) off
 |.sn m rows,u=>(rows=[]∧∃ad cap,u = .slice (some ad) 0 cap∧cap≤maxLen)∨∃b off cap,u = .slice (some ⟨b,off,none⟩) rows.length cap∧rows.length≤cap∧cap≤maxLen∧repRows C m rows (C b) off
 |.pt cells,u=>∃b off,u = .pointer (some ⟨b,off,none⟩)∧repRow C cells (C b) off
def repRow (C:View):List T→(Nat→Option Value)→Nat→Prop
 |[],_,_=>True
 |t::ts,V,off=>(∃c,V off=some c∧c.oneCell'=true∧rep C t c)∧repRow C ts V (off+1)
def repRows (C:View)(m:Nat):List (List T)→(Nat→Option Value)→Nat→Prop
 |[],_,_=>True
 |r::rs,V,off=>r.length=m∧repRow C r V off∧repRows C m rs V (off+m)
end
def View.le (C D:View):Prop:=∀b o c,C b o=some c→D b o=some c
theorem View.le.refl (C:View):C.le C:=fun _ _ _ h=>h
theorem View.le.trans {C D E:View}(h:C.le D) (k:D.le E):C.le E:=fun b o c x=>k b o c (h b o c x)
mutual
theorem Qcf {C D:View}(h:C.le D):∀(t:T)(u:Value),rep C t u→rep D t u
 |.v x,u,hr=>by simpa only[rep] using hr
 |.sl m rows,u,hr=>by
  simp only[rep] at hr ⊢
  rcases hr with hr|⟨b,off,cap,h1,h2,h3,h4⟩
  ·exact .inl hr
  ·exact .inr ⟨b,off,cap,h1,h2,h3,Qad h m rows _ _ off (fun o c=>h b o c) h4⟩
 |.sn m rows,u,hr=>by
  simp only[rep] at hr ⊢
  rcases hr with hr|⟨b,off,cap,h1,h2,h3,h4⟩
  ·exact .inl hr
  ·exact .inr ⟨b,off,cap,h1,h2,h3,Qad h m rows _ _ off (fun o c=>h b o c) h4⟩
 |.pt cells,u,hr=>by
  simp only[rep] at hr ⊢
  obtain⟨b,off,h1,h2⟩:=hr
  exact⟨b,off,h1,Qa1 h cells _ _ off (fun o c=>h b o c) h2⟩
theorem Qa1 {C D:View}(h:C.le D):∀(ts:List T)(V W:Nat→Option Value)(off:Nat),(∀o c,V o=some c→W o=some c)→repRow C ts V off→repRow D ts W off
 |[],_,_,_,_,_=>by simp only[repRow]
 |t::ts,V,W,off,hv,hr=>by
  simp only[repRow] at hr ⊢
  obtain⟨⟨c,h1,h0,h2⟩,h3⟩:=hr
  exact⟨⟨c,hv _ _ h1,h0,Qcf h t c h2⟩,Qa1 h ts V W (off+1) hv h3⟩
theorem Qad {C D:View}(h:C.le D) (m:Nat):∀(rs:List (List T)) (V W:Nat→Option Value) (off:Nat),(∀o c,V o=some c→W o=some c)→repRows C m rs V off→repRows D m rs W off
 |[],_,_,_,_,_=>by simp only[repRows]
 |r::rs,V,W,off,hv,hr=>by
  simp only[repRows] at hr ⊢
  exact⟨hr.1,Qa1 h r V W off hv hr.2.1,Qad h m rs V W (off+m) hv hr.2.2⟩
end
theorem Qa9 {C:View}:∀{ts:List T}{V:Nat→Option Value}{off j:Nat}{t:T},repRow C ts V off→ts[j]? = some t→∃c,V (off+j)=some c∧c.oneCell'=true∧rep C t c
 |[],_,_,_,_,_,h=>by simp at h
 |t::ts,V,off,0,t',hr,h=>by
  simp only[repRow] at hr;simp at h;subst h;exact hr.1
 |t::ts,V,off,j+1,t',hr,h=>by
  simp only[repRow] at hr;simp at h
  have:=Qa9 hr.2 h
  rwa [Nat.add_assoc,Nat.add_comm 1 j] at this
theorem repRow_drop {C:View}:∀{ts:List T}{V:Nat→Option Value}{off:Nat}(j:Nat),repRow C ts V off→repRow C (ts.drop j) V (off+j)
 |ts,V,off,0,hr=>by simpa using hr
 |[],V,off,j+1,_=>by simp only[List.drop_nil,repRow]
 |t::ts,V,off,j+1,hr=>by
  simp only[repRow] at hr
  have:=repRow_drop j hr.2
  rwa [Nat.add_assoc,Nat.add_comm 1 j] at this
theorem Qax {C:View}{m:Nat}:∀{rs:List (List T)}{V:Nat→Option Value}{off k:Nat}{r:List T},repRows C m rs V off→rs[k]? = some r→r.length=m∧repRow C r V (off+k*m)
 |[],_,_,_,_,_,h=>by simp at h
 |r::rs,V,off,0,r',hr,h=>by
  simp only[repRows] at hr;simp at h;subst h;exact⟨hr.1,by simpa using hr.2.1⟩
 |r::rs,V,off,k+1,r',hr,h=>by
  simp only[repRows] at hr;simp at h
  have:=Qax hr.2.2 h
  rw[show off+(k+1)*m=off+m+k*m by rw[Nat.add_mul];omega];exact this
theorem Qbn {C:View}{m:Nat}:∀{rs:List (List T)}{V:Nat→Option Value}{off:Nat},(∀k r,rs[k]? = some r→r.length=m∧repRow C r V (off+k*m))→repRows C m rs V off
 |[],_,_,_=>by simp only[repRows]
 |r::rs,V,off,h=>by
  simp only[repRows]
  have h0:=h 0 r (by simp)
  refine⟨h0.1,by simpa using h0.2,Qbn fun k r' hk => ?_⟩
  have:=h (k+1) r' (by simpa using hk)
  rw[show off+(k+1)*m=off+m+k*m by rw[Nat.add_mul];omega] at this;exact this
theorem Qbd {C:View}:∀{ts:List T}{V:Nat→Option Value}{off:Nat},(∀j t,ts[j]? = some t→∃c,V (off+j)=some c∧c.oneCell'=true∧rep C t c)→repRow C ts V off
 |[],_,_,_=>by simp only[repRow]
 |t::ts,V,off,h=>by
  simp only[repRow]
  refine⟨by simpa using h 0 t (by simp),Qbd fun j t' hj => ?_⟩
  have:=h (j+1) t' (by simpa using hj)
  rwa [show off+(j+1)=off+1+j by omega] at this
inductive A where
 |dead
 |t (x:T)
 |agg (xs:List A)
 |ref (i:Nat)
 |at (i off:Nat)
 |elt (i k m off:Nat)
 |tup (xs:List A)
 |fn (f:FuncId) (cap:List A)
instance:Inhabited A:=⟨.dead⟩
mutual
def relA (ρ:Nat→Value)(C:View):A→Value→Prop
 |.dead,_=>True
 |.t x,u=>rep C x u
 |.agg xs,u=>∃cs,u = .agg cs∧relAs ρ C xs cs.toList
 |.ref i,u=>u=ρ i
 |.at i off,u=>∃b,ρ i = .pointer (some ⟨b,0,none⟩)∧u = .pointer (some ⟨b,off,none⟩)
 |.elt i k m off,u=>∃b n cap,ρ i = .slice (some ⟨b,0,none⟩) n cap∧u = .pointer (some ⟨b,k*m+off,none⟩)
 |.tup xs,u=>∃cs,u = .tuple cs∧relAs ρ C xs cs.toList
 |.fn f cap,u=>∃cs,u = .func (.func f) #[] cs∧relAs ρ C cap cs.toList
def relAs (ρ:Nat→Value)(C:View):List A→List Value→Prop
 |[],us=>us=[]
 |x::xs,us=>∃u us',us=u::us'∧relA ρ C x u∧relAs ρ C xs us'
end
theorem Qaj {ρ:Nat→Value}{C:View}:∀{xs:List A}{us:List Value},relAs ρ C xs us→us.length=xs.length
 |[],us,h=>by simp only[relAs] at h;simp[h]
 |x::xs,us,h=>by
  simp only[relAs] at h
  obtain⟨u,us',rfl,_,h2⟩:=h
  simp[Qaj h2]
theorem Qaz {ρ:Nat→Value}{C:View}:∀{xs:List A}{us:List Value}{j:Nat}{x:A},relAs ρ C xs us→xs[j]? = some x→∃u,us[j]? = some u∧relA ρ C x u
 |[],us,j,x,h,hx=>by simp at hx
 |y::xs,us,0,x,h,hx=>by
  simp only[relAs] at h;simp at hx;subst hx
  obtain⟨u,us',rfl,h1,_⟩:=h
  exact⟨u,by simp,h1⟩
 |y::xs,us,j+1,x,h,hx=>by
  simp only[relAs] at h;simp at hx
  obtain⟨u,us',rfl,_,h2⟩:=h
  simpa using Qaz h2 hx
theorem Qdr {ρ:Nat→Value}{C:View}:∀{xs:List A}{us:List Value},us.length=xs.length→(∀(j:Nat) x u,xs[j]? = some x→us[j]? = some u→relA ρ C x u)→relAs ρ C xs us
 |[],us,h,_=>by simp only[relAs];simpa using h
 |x::xs,us,h,hg=>by
  simp only[relAs]
  match us,h,hg with
  |u::us',h,hg=>exact⟨u,us',rfl,hg 0 x u (by simp) (by simp),Qdr (by simpa using h) fun j y v hy hv=>hg (j+1) y v (by simpa using hy) (by simpa using hv)⟩
theorem Qbv {ρ:Nat→Value}{C:View}{xs ys:List A}{us vs:List Value}(h:relAs ρ C xs us) (k:relAs ρ C ys vs):relAs ρ C (xs++ys) (us++vs):=by
 have hl:=Qaj h
 refine Qdr (by simp[Qaj h,Qaj k]) fun j x u hx hu => ?_
 by_cases hj:j<xs.length
 ·rw[List.getElem?_append_left hj] at hx
  rw[List.getElem?_append_left (by omega)] at hu
  obtain⟨u',h1,h2⟩:=Qaz h hx
  rw[h1] at hu;cases hu;exact h2
 ·rw[List.getElem?_append_right (by omega)] at hx
  rw[List.getElem?_append_right (by omega),hl] at hu
  obtain⟨u',h1,h2⟩:=Qaz k hx
  rw[h1] at hu;cases hu;exact h2
mutual
theorem Qav {ρ:Nat→Value}{C D:View}(h:C.le D):∀(x:A)(u:Value),relA ρ C x u→relA ρ D x u
 |.dead,_,_=>by simp only[relA]
 |.t x,u,hr=>by simp only[relA] at hr ⊢;exact Qcf h x u hr
 |.agg xs,u,hr=>by simp only[relA] at hr ⊢;obtain⟨cs,h1,h2⟩:=hr;exact⟨cs,h1,Qas h xs _ h2⟩
 |.ref i,u,hr=>by simpa only[relA] using hr
 |.at i off,u,hr=>by simpa only[relA] using hr
 |.elt i k m off,u,hr=>by simpa only[relA] using hr
 |.tup xs,u,hr=>by simp only[relA] at hr ⊢;obtain⟨cs,h1,h2⟩:=hr;exact⟨cs,h1,Qas h xs _ h2⟩
 |.fn f xs,u,hr=>by simp only[relA] at hr ⊢;obtain⟨cs,h1,h2⟩:=hr;exact⟨cs,h1,Qas h xs _ h2⟩
theorem Qas {ρ:Nat→Value}{C D:View}(h:C.le D):∀(xs:List A)(us:List Value),relAs ρ C xs us→relAs ρ D xs us
 |[],us,hr=>by simpa only[relAs] using hr
 |x::xs,us,hr=>by
  simp only[relAs] at hr ⊢
  obtain⟨u,us',h1,h2,h3⟩:=hr
  exact⟨u,us',h1,Qav h x u h2,Qas h xs us' h3⟩
end
mutual
def A.kill (l:List Nat):A→A
 |.dead => .dead
 |.t x => .t x
 |.agg xs => .agg (A.killL l xs)
 |.ref i=>if l.contains i then .dead else .ref i
 |.at i off=>if l.contains i then .dead else .at i off
 |.elt i k m off=>if l.contains i then .dead else .elt i k m off
 |.tup xs => .tup (A.killL l xs)
 |.fn f xs => .fn f (A.killL l xs)
def A.killL (l:List Nat):List A→List A
 |[]=>[]
 |x::xs=>A.kill l x::A.killL l xs
end
mutual
theorem Qen {ρ σ:Nat→Value}{C:View}{l:List Nat}(h:∀i,i∉l→σ i=ρ i):∀(x:A)(u:Value),relA ρ C x u→relA σ C (x.kill l) u
 |.dead,_,_=>by simp only[A.kill,relA]
 |.t x,u,hr=>by simpa only[A.kill,relA] using hr
 |.agg xs,u,hr=>by simp only[A.kill,relA] at hr ⊢;obtain⟨cs,h1,h2⟩:=hr;exact⟨cs,h1,Qb5 h xs _ h2⟩
 |.ref i,u,hr=>by
  simp only[A.kill]
  by_cases hi:i∈l
  ·simp[hi,relA]
  ·simp only[relA] at hr;simp[hi,relA,h i hi,hr]
 |.at i off,u,hr=>by
  simp only[A.kill]
  by_cases hi:i∈l
  ·simp[hi,relA]
  ·simp only[relA] at hr;simpa[hi,relA,h i hi] using hr
 |.elt i k m off,u,hr=>by
  simp only[A.kill]
  by_cases hi:i∈l
  ·simp[hi,relA]
  ·simp only[relA] at hr;simpa[hi,relA,h i hi] using hr
 |.tup xs,u,hr=>by simp only[A.kill,relA] at hr ⊢;obtain⟨cs,h1,h2⟩:=hr;exact⟨cs,h1,Qb5 h xs _ h2⟩
 |.fn f xs,u,hr=>by simp only[A.kill,relA] at hr ⊢;obtain⟨cs,h1,h2⟩:=hr;exact⟨cs,h1,Qb5 h xs _ h2⟩
theorem Qb5 {ρ σ:Nat→Value}{C:View}{l:List Nat}(h:∀i,i∉l→σ i=ρ i):∀(xs:List A)(us:List Value),relAs ρ C xs us→relAs σ C (A.killL l xs) us
 |[],us,hr=>by simpa only[A.killL,relAs] using hr
 |x::xs,us,hr=>by
  simp only[A.killL,relAs] at hr ⊢
  obtain⟨u,us',h1,h2,h3⟩:=hr
  exact⟨u,us',h1,Qen h x u h2,Qb5 h xs us' h3⟩
end
mutual
def A.only (l:List Nat):A→Bool
 |.dead | .t _=>true
 |.agg xs=>A.onlyL l xs
 |.ref i | .at i _ | .elt i _ _ _=>l.contains i
 |.tup xs=>A.onlyL l xs
 |.fn _ xs=>A.onlyL l xs
def A.onlyL (l:List Nat):List A→Bool
 |[]=>true
 |x::xs=>A.only l x&&A.onlyL l xs
end
mutual
theorem Qeo {ρ σ:Nat→Value}{C:View}{l:List Nat}(h:∀i,i∈l→σ i=ρ i):∀(x:A)(u:Value),x.only l=true→relA ρ C x u→relA σ C x u
 |.dead,_,_,_=>by simp only[relA]
 |.t x,u,_,hr=>by simpa only[relA] using hr
 |.agg xs,u,ho,hr=>by simp only[A.only,relA] at ho hr ⊢;obtain⟨cs,h1,h2⟩:=hr;exact⟨cs,h1,Qct h xs _ ho h2⟩
 |.ref i,u,ho,hr=>by simp only[A.only,List.contains_iff_mem,relA] at ho hr ⊢;rw[h i ho];exact hr
 |.at i off,u,ho,hr=>by simp only[A.only,List.contains_iff_mem,relA] at ho hr ⊢;rw[h i ho];exact hr
 |.elt i k m off,u,ho,hr=>by simp only[A.only,List.contains_iff_mem,relA] at ho hr ⊢;rw[h i ho];exact hr
 |.tup xs,u,ho,hr=>by simp only[A.only,relA] at ho hr ⊢;obtain⟨cs,h1,h2⟩:=hr;exact⟨cs,h1,Qct h xs _ ho h2⟩
 |.fn f xs,u,ho,hr=>by simp only[A.only,relA] at ho hr ⊢;obtain⟨cs,h1,h2⟩:=hr;exact⟨cs,h1,Qct h xs _ ho h2⟩
theorem Qct {ρ σ:Nat→Value}{C:View}{l:List Nat}(h:∀i,i∈l→σ i=ρ i):∀(xs:List A)(us:List Value),A.onlyL l xs=true→relAs ρ C xs us→relAs σ C xs us
 |[],us,_,hr=>by simpa only[relAs] using hr
 |x::xs,us,ho,hr=>by
  simp only[A.onlyL,Bool.and_eq_true,relAs] at ho hr ⊢
  obtain⟨u,us',h1,h2,h3⟩:=hr
  exact⟨u,us',h1,Qeo h x u ho.1 h2,Qct h xs us' ho.2 h3⟩
end
structure Ent where
 key:Value
 born:Nat
 val:List T
inductive O where
 |box (xs:List A)
 |row (m:Nat) (rows:List (List T))
 |map (agg:Bool) (clock:Nat) (es:List Ent)
 |iter (j:Nat) (since:Nat) (seen:List Nat) (last:Nat)
 |junk
def O.kill (l:List Nat):O→O
 |.box xs => .box (A.killL l xs)
 |.iter j since seen last=>if l.contains j then .junk else .iter j since seen last
 |o=>o
def O.only (l:List Nat):O→Bool
 |.box xs=>A.onlyL l xs
 |.iter j _ _ _=>l.contains j
 |_=>true
def valOf (agg:Bool)(cs:List Value):Value:=if agg then .agg cs.toArray else cs.headD undef
def relE (C:View)(agg:Bool):List Ent→List MapEntry→Prop
 |[],es=>es=[]
 |x::xs,es=>∃e es' cs,es=e::es'∧e.key=x.key∧e.born=x.born∧e.val=valOf agg cs∧cs.length=x.val.length∧repRow C x.val (fun i=>cs[i]?) 0∧relE C agg xs es'
def freeSl (u:Value):Prop:=u = .slice none 0 0∨∃ad,u = .slice (some ad) 0 0
def relO (ρ:Nat→Value)(C:View)(w:World)(u:Value):O→Prop
 |.box xs=>∃b cur e,u = .pointer (some ⟨b,0,none⟩)∧w.heap[b]? = some (.cells cur e (0,0))∧relAs ρ C xs cur.toList
 |.row m rows=>(rows=[]∧freeSl u)∨∃b cap cur e,u = .slice (some ⟨b,0,none⟩) rows.length cap∧w.heap[b]? = some (.cells cur e (0,0))∧
   rows.length≤cap∧cap≤maxLen∧cur.size=cap*m∧repRows C m rows (fun i=>cur[i]?) 0∧0<cap
 |.map agg clock es=>∃r ents,u = .map (some r)∧w.heap[r]? = some (.map ents clock)∧relE C agg es ents.toList
 |.iter j since seen last=>∃b r,u = .pointer (some ⟨b,0,none⟩)∧w.heap[b]? = some (.mapIter (some r) since seen.toArray last)∧ρ j = .map (some r)
 |.junk=>∃b o,u = .pointer (some ⟨b,0,none⟩)∧w.heap[b]? = some o
def blockOf:Value→Option Nat
 |.pointer (some a)=>some a.block
 |.slice (some a) _ cap=>if cap=0 then none else some a.block
 |.map (some r)=>some r
 |_=>none
theorem Qah {b o cap n:Nat}(h:0<cap):blockOf (.slice (some ⟨b,o,none⟩) n cap)=some b:=by simp[blockOf,Nat.ne_of_gt h]
theorem free_block {u:Value}(h:freeSl u):blockOf u=none:=by
 rcases h with rfl|⟨ad,rfl⟩<;>rfl
theorem Qgi:freeSl (.slice none 0 0) := .inl rfl
theorem Qfj {u:Value}(h:freeSl u):emptySl u:=by
 rcases h with rfl|⟨ad,rfl⟩
 ·exact .inl rfl
 ·exact .inr ⟨ad,0,rfl,Nat.zero_le _⟩
theorem Qbh {C D:View}{agg:Bool}(h:C.le D):∀(xs:List Ent)(es:List MapEntry),relE C agg xs es→relE D agg xs es
 |[],es,hr=>by simpa only[relE] using hr
 |x::xs,es,hr=>by
  simp only[relE] at hr ⊢
  obtain⟨e,es',cs,h1,h2,h3,h4,h5,h6,h7⟩:=hr
  exact⟨e,es',cs,h1,h2,h3,h4,h5,Qa1 h x.val _ _ 0 (fun _ _ x=>x) h6,Qbh h xs es' h7⟩
theorem Qbe {ρ:Nat→Value}{C D:View}{w w':World}{u:Value}(h:C.le D) (hb:∀b,blockOf u=some b→w'.heap[b]? = w.heap[b]?):∀(o:O),relO ρ C w u o→relO ρ D w' u o
 |.box xs,hr=>by
  obtain⟨b,cur,e,rfl,h2,h3⟩:=hr
  exact⟨b,cur,e,rfl,by rw[hb b rfl];exact h2,Qas h xs _ h3⟩
 |.row m rows,hr=>by
  rcases hr with hr|⟨b,cap,cur,e,rfl,h2,h3,h4,h5,h6,h7⟩
  ·exact .inl hr
  ·exact .inr ⟨b,cap,cur,e,rfl,by rw[hb b (Qah h7)];exact h2,h3,h4,h5,Qad h m rows _ _ 0 (fun _ _ x=>x) h6,h7⟩
 |.map agg clock es,hr=>by
  obtain⟨r,ents,rfl,h2,h3⟩:=hr
  exact⟨r,ents,rfl,by rw[hb r rfl];exact h2,Qbh h _ _ h3⟩
 |.iter j since seen last,hr=>by
  obtain⟨b,r,rfl,h2,h3⟩:=hr
  exact⟨b,r,rfl,by rw[hb b rfl];exact h2,h3⟩
 |.junk,hr=>by
  obtain⟨b,o,rfl,h2⟩:=hr
  exact⟨b,o,rfl,by rw[hb b rfl];exact h2⟩
theorem relO_only {ρ σ:Nat→Value}{C:View}{w:World}{u:Value}{l:List Nat}(h:∀i,i∈l→σ i=ρ i):∀(o:O),o.only l=true→relO ρ C w u o→relO σ C w u o
 |.box xs,ho,hr=>by
  obtain⟨b,cur,e,h1,h2,h3⟩:=hr
  exact⟨b,cur,e,h1,h2,Qct h xs _ ho h3⟩
 |.row m rows,_,hr=>hr
 |.map _ _ _,_,hr=>hr
 |.iter j since seen last,ho,hr=>by
  obtain⟨b,r,h1,h2,h3⟩:=hr
  exact⟨b,r,h1,h2,by rw[h j (by simpa[O.only] using ho)];exact h3⟩
 |.junk,_,hr=>hr
theorem relO_kill {ρ σ:Nat→Value}{C:View}{w:World}{u:Value}{l:List Nat}(h:∀i,i∉l→σ i=ρ i):∀(o:O),relO ρ C w u o→relO σ C w u (o.kill l)
 |.box xs,hr=>by
  obtain⟨b,cur,e,h1,h2,h3⟩:=hr
  exact⟨b,cur,e,h1,h2,Qb5 h xs _ h3⟩
 |.row m rows,hr=>hr
 |.map _ _ _,hr=>hr
 |.iter j since seen last,hr=>by
  obtain⟨b,r,h1,h2,h3⟩:=hr
  simp only[O.kill]
  split
  ·exact⟨b,_,h1,h2⟩
  ·rename_i hj
   exact⟨b,r,h1,h2,by rw[h j (by simpa using hj)];exact h3⟩
 |.junk,hr=>hr
end Go.Ab
