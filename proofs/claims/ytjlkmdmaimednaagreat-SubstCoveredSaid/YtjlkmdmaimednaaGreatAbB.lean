import Derived.Test.YtjlkmdmaimednaaGreatAbA
set_option linter.unusedVariables false
set_option linter.unusedSimpArgs false
namespace Go.Ab
structure St where
 slots:Nat→A
 objs:Nat→Option O
 base:List Nat
def St.put (s:St)(d:Nat)(x:A):St:={ s with slots:=fun i=>if i==d then x else s.slots i }
def St.putO (s:St):Option Nat→A→St
 |some d,x=>s.put d x
 |none,_=>s
def St.set (s:St)(j:Nat)(o:O):St:={ s with objs:=fun i=>if i==j then some o else s.objs i }
def St.drop (s:St)(j:Nat):St:={ s with objs:=fun i=>if i==j then none else s.objs i }
def own (ρ:Nat→Value)(objs:Nat→Option O)(b:Nat):Prop:=∃i,(objs i).isSome=true∧blockOf (ρ i)=some b
open Classical in
noncomputable def view (hid ow:Nat→Prop) (w:World):View:=fun b o=>if ow b∨hid b then none else w.cell? ⟨b,o,none⟩
theorem Qae {hid ow:Nat→Prop}{w:World}{b o:Nat}{c:Value}:view hid ow w b o=some c↔¬ ow b∧¬ hid b∧w.cell? ⟨b,o,none⟩=some c:=by
 unfold view
 by_cases h:ow b∨hid b
 ·simp only[h,if_true]
  constructor
  ·intro h;cases h
  ·rintro ⟨h1,h2,_⟩;exact absurd h (by simp[h1,h2])
 ·simp only[h,if_false]
  simp only[not_or] at h
  exact⟨fun h3=>⟨h.1,h.2,h3⟩,fun h3=>h3.2.2⟩
structure Heap (hid:Nat→Prop) (ρ:Nat→Value) (objs:Nat→Option O) (w:World):Prop where
 obj:∀i o,objs i=some o→relO ρ (view hid (own ρ objs) w) w (ρ i) o
 dis:∀i j b,(objs i).isSome=true→(objs j).isSome=true→blockOf (ρ i)=some b→blockOf (ρ j)=some b→i=j
 nhid:∀b,own ρ objs b→¬ hid b
 hlt:∀b,hid b→b<w.heap.size
structure Frm (w0:World) (own0 ow:Nat→Prop) (w:World):Prop where
 os:w.os=w0.os
 tape:w.tape=w0.tape
 output:w.output=w0.output
 size:w0.heap.size≤w.heap.size
 block:∀b,b<w0.heap.size→¬ own0 b→w.heap[b]? = w0.heap[b]?
 new:∀b,ow b→own0 b∨w0.heap.size≤b
theorem Frm.refl (w:World) (ow:Nat→Prop):Frm w ow ow w:=⟨rfl,rfl,rfl,Nat.le_refl _,fun _ _ _=>rfl,fun _ h => .inl h⟩
structure Base where
 hid:Nat→Prop
 w0:World
 own0:Nat→Prop
 ρ0:Nat→Value
 n:Nat
 bs:List Nat
 ro:Option Nat:=none
 ds:List Deferred:=[]
 hro:ro≠none→9999∈bs:=by exact fun h=>absurd rfl h
structure Rel (B:Base) (s:St) (a:Act) (w:World) (ρ:Nat→Value):Prop where
 heap:Heap B.hid ρ s.objs w
 frm:Frm B.w0 B.own0 (own ρ s.objs) w
 slots:∀i,relA ρ (view B.hid (own ρ s.objs) w) (s.slots i) (a.tmps.getD i undef)
 keep:∀i,i∈s.base→ρ i=B.ρ0 i
 n:a.tmps.size=B.n
 defers:a.defers=B.ds
 base:s.base=B.bs
theorem Qa6 {w:World}{b:Nat}{o:Obj}(h:w.heap[b]? = some o):b<w.heap.size:=(Array.getElem?_eq_some_iff.1 h).1
theorem Qcj {ρ:Nat→Value}{C:View}{w:World}{u:Value}{o:O}{b:Nat}(h:relO ρ C w u o) (hb:blockOf u=some b):b<w.heap.size:=by
 cases o with
 |box xs=>obtain⟨c,cur,e,rfl,h2,_⟩:=h;simp[blockOf] at hb;subst hb;exact Qa6 h2
 |row m rows=>
  rcases h with⟨_,hu⟩|⟨c,cap,cur,e,rfl,h2,_,_,_,_,h7⟩
  ·rw[free_block hu] at hb;cases hb
  ·rw[Qah h7] at hb;cases hb;exact Qa6 h2
 |map agg clock es=>obtain⟨r,ents,rfl,h2,_⟩:=h;simp[blockOf] at hb;subst hb;exact Qa6 h2
 |iter j since seen last=>obtain⟨c,r,rfl,h2,_⟩:=h;simp[blockOf] at hb;subst hb;exact Qa6 h2
 |junk=>obtain⟨c,o,rfl,h2⟩:=h;simp[blockOf] at hb;subst hb;exact Qa6 h2
section
variable {B:Base} {s:St} {a:Act} {w:World} {ρ:Nat→Value}
theorem Rel.own_lt (h:Rel B s a w ρ){b:Nat}(hb:own ρ s.objs b):b<w.heap.size:=by
 obtain⟨i,hi,hbi⟩:=hb
 obtain⟨o,ho⟩:=Option.isSome_iff_exists.1 hi
 exact Qcj (h.heap.obj i o ho) hbi
theorem Rel.put (h:Rel B s a w ρ){d:Nat}(hd:d<B.n){x:A}{u:Value}(hx:relA ρ (view B.hid (own ρ s.objs) w) x u):Rel B (s.put d x) (a.put (some d) u) w ρ where
 heap:=h.heap
 frm:=h.frm
 slots:=fun i=>by
  have hn:=h.n
  simp only[St.put,Act.put]
  by_cases hi:i=d
  ·subst hi
   simp only[beq_self_eq_true,if_true]
   rw[Array.getD_eq_getD_getElem?,Array.getElem?_setIfInBounds_self_of_lt (by omega)]
   exact hx
  ·have:(i==d)=false:=by simpa using hi
   simp only[this,Bool.false_eq_true,if_false]
   have hs:=h.slots i
   rw[Array.getD_eq_getD_getElem?] at hs ⊢
   rw[Array.getElem?_setIfInBounds_ne (fun e=>hi e.symm)]
   exact hs
 keep:=h.keep
 n:=by simpa[Act.put] using h.n
 defers:=h.defers
 base:=h.base
theorem Rel.putO (h:Rel B s a w ρ){d:Option Nat}(hd:∀k,d=some k→k<B.n){x:A}{u:Value}(hx:relA ρ (view B.hid (own ρ s.objs) w) x u):Rel B (s.putO d x) (a.put d u) w ρ:=by
 cases d with
 |none=>exact h
 |some d=>exact h.put (hd d rfl) hx
theorem Rel.drewN (h:Rel B s a w ρ) (k:Nat):Rel B s a { w with drawn:=w.drawn+k } ρ where
 heap:=⟨fun i o ho=>Qbe (w:=w) (View.le.refl _) (fun _ _=>rfl) o (h.heap.obj i o ho),h.heap.dis,h.heap.nhid,h.heap.hlt⟩
 frm:=⟨h.frm.os,h.frm.tape,h.frm.output,h.frm.size,h.frm.block,h.frm.new⟩
 slots:=h.slots
 keep:=h.keep
 n:=h.n
 defers:=h.defers
 base:=h.base
theorem Rel.weak (h:Rel B s a w ρ){s':St}(hb:s'.base=s.base) (hs:∀i,s'.slots i=s.slots i∨s'.slots i = .dead) (ho:∀i,s'.objs i=s.objs i∨s'.objs i=none):Rel B s' a w ρ:=by
 have hown:∀b,own ρ s'.objs b→own ρ s.objs b:=by
  rintro b ⟨i,hi,hbi⟩
  rcases ho i with h1|h1
  ·exact⟨i,by rw[←h1];exact hi,hbi⟩
  ·rw[h1] at hi;cases hi
 have hle:(view B.hid (own ρ s.objs) w).le (view B.hid (own ρ s'.objs) w):=by
  intro b o c hc
  rw[Qae] at hc ⊢
  exact⟨fun h1=>hc.1 (hown b h1),hc.2.1,hc.2.2⟩
 refine⟨⟨fun i o hi => ?_,fun i j b hi hj => ?_,fun b hb=>h.heap.nhid b (hown b hb),h.heap.hlt⟩,⟨h.frm.os,h.frm.tape,h.frm.output,h.frm.size,h.frm.block,fun b hb=>h.frm.new b (hown b hb)⟩,fun i => ?_,by rw[hb];exact h.keep,h.n,h.defers,by rw[hb];exact h.base⟩
 ·rcases ho i with h1|h1
  ·exact Qbe (w:=w) hle (fun _ _=>rfl) o (h.heap.obj i o (by rw[←h1];exact hi))
  ·rw[h1] at hi;cases hi
 ·have e:∀i,(s'.objs i).isSome=true→(s.objs i).isSome=true:=fun i hi=>by
   rcases ho i with h1|h1
   ·rw[←h1];exact hi
   ·rw[h1] at hi;cases hi
  exact h.heap.dis i j b (e i hi) (e j hj)
 ·rcases hs i with h1|h1
  ·rw[h1];exact Qav hle _ _ (h.slots i)
  ·rw[h1];simp only[relA]
theorem Rel.change (h:Rel B s a w ρ){s':St}{w':World}{σ:Nat→Value}(jo:Option Nat) (k:Nat) (o':O) (hb:s'.base=s.base)
  (hσ:∀i,i≠k→σ i=ρ i)
  (hσb:k∈s.base→σ k=ρ k)
  (hs:∀i u C,relA ρ C (s.slots i) u→relA σ C (s'.slots i) u)
  (ho:∀i,i≠k→∀o1,s'.objs i=some o1→jo≠some i∧∃o,s.objs i=some o∧∀C w u,relO ρ C w u o→relO σ C w u o1)
  (hk:s'.objs k=some o')
  (hos:w'.os=w.os) (htape:w'.tape=w.tape) (hout:w'.output=w.output) (hsize:w.heap.size≤w'.heap.size)
  (hblock:∀b,b<w.heap.size→(∀j,jo=some j→(s.objs j).isSome=true→blockOf (ρ j)≠some b)→w'.heap[b]? = w.heap[b]?)
  (hnew:∀b,blockOf (σ k)=some b→w.heap.size≤b∨∃j,jo=some j∧(s.objs j).isSome=true∧blockOf (ρ j)=some b)
  (hrel:∀C',(view B.hid (own ρ s.objs) w).le C'→relO σ C' w' (σ k) o'):Rel B s' a w' σ:=by
 have hown:∀b,own σ s'.objs b→own ρ s.objs b∨w.heap.size≤b:=by
  rintro b ⟨i,hi,hbi⟩
  by_cases hij:i=k
  ·subst hij
   rcases hnew b hbi with h1|⟨j,_,h1⟩
   ·exact .inr h1
   ·exact .inl ⟨j,h1⟩
  ·obtain⟨o1,h1⟩:=Option.isSome_iff_exists.1 hi
   obtain⟨_,o,h2,_⟩:=ho i hij o1 h1
   exact .inl ⟨i,by simp[h2],by rw[←hσ i hij];exact hbi⟩
 have hle:(view B.hid (own ρ s.objs) w).le (view B.hid (own σ s'.objs) w'):=by
  intro b o c hc
  rw[Qae] at hc ⊢
  have hlt:b<w.heap.size:=World.block_lt_of_cell? w _ hc.2.2
  refine⟨fun h1 => ?_,hc.2.1,?_⟩
  ·rcases hown b h1 with h2|h2
   ·exact hc.1 h2
   ·omega
  ·rw[World.cell?_of_block (w:=w) (hblock b hlt fun j _ h1 h2=>hc.1 ⟨j,h1,h2⟩)];exact hc.2.2
 refine⟨⟨fun i o hi => ?_,fun i l b hi hl hbi hbl => ?_,fun b hb => ?_,fun b hb=>Nat.lt_of_lt_of_le (h.heap.hlt b hb) hsize⟩,
  ⟨hos.trans h.frm.os,htape.trans h.frm.tape,hout.trans h.frm.output,Nat.le_trans h.frm.size hsize,fun b hlt hno => ?_,fun b hb => ?_⟩,fun i => ?_,fun i hi => ?_,h.n,h.defers,hb.trans h.base⟩
 ·by_cases hij:i=k
  ·subst hij
   rw[hk] at hi;cases hi
   exact hrel _ hle
  ·obtain⟨hji,o0,h1,h2⟩:=ho i hij o hi
   have h3:=h.heap.obj i o0 h1
   rw[hσ i hij]
   refine Qbe (w:=w) hle (fun b hb=>hblock b (Qcj h3 hb) fun j hj h4 h5 => ?_) o (h2 _ _ _ h3)
   have:=h.heap.dis i j b (by simp[h1]) h4 hb h5
   subst this
   exact hji hj
 ·have old:∀i,i≠k→(s'.objs i).isSome=true→blockOf (σ i)=some b→jo≠some i∧(s.objs i).isSome=true∧blockOf (ρ i)=some b∧b<w.heap.size:=fun i hij hi hbi=>by
   obtain⟨o1,h1⟩:=Option.isSome_iff_exists.1 hi
   obtain⟨hji,o,h2,_⟩:=ho i hij o1 h1
   have h3:blockOf (ρ i)=some b:=by rw[←hσ i hij];exact hbi
   exact⟨hji,by simp[h2],h3,Qcj (h.heap.obj i o h2) h3⟩
  by_cases hij:i=k
  ·by_cases hlj:l=k
   ·rw[hij,hlj]
   ·subst hij
    obtain⟨h0,h1,h2,h3⟩:=old l hlj hl hbl
    rcases hnew b hbi with h4|⟨j,hj,h4⟩
    ·omega
    ·have:=h.heap.dis j l b h4.1 h1 h4.2 h2
     subst this;exact absurd hj h0
  ·obtain⟨h0,h1,h2,h3⟩:=old i hij hi hbi
   by_cases hlj:l=k
   ·subst hlj
    rcases hnew b hbl with h4|⟨j,hj,h4⟩
    ·omega
    ·have:=h.heap.dis j i b h4.1 h1 h4.2 h2
     subst this;exact absurd hj h0
   ·obtain⟨_,h4,h5,_⟩:=old l hlj hl hbl
    exact h.heap.dis i l b h1 h4 h2 h5
 ·rcases hown b hb with h1|h1
  ·exact h.heap.nhid b h1
  ·intro h2;have:=h.heap.hlt b h2;omega
 ·by_cases hob:own ρ s.objs b
  ·rcases h.frm.new b hob with h1|h1
   ·exact absurd h1 hno
   ·omega
  ·rw[hblock b (Nat.lt_of_lt_of_le hlt h.frm.size) fun j _ h1 h2=>hob ⟨j,h1,h2⟩]
   exact h.frm.block b hlt hno
 ·rcases hown b hb with h1|h1
  ·exact h.frm.new b h1
  ·exact .inr (Nat.le_trans h.frm.size h1)
 ·exact Qav hle _ _ (hs i _ _ (h.slots i))
 ·rw[hb] at hi
  by_cases hij:i=k
  ·subst hij;rw[hσb hi];exact h.keep i hi
  ·rw[hσ i hij];exact h.keep i hi
def St.mv (s:St)(jo:Option Nat)(k:Nat)(o:O):St:=
 { s with slots:=fun i=>(s.slots i).kill [k],objs:=fun i=>if i==k then some o else if jo==some i then none else(s.objs i).map (O.kill [k]) }
theorem Rel.mv (h:Rel B s a w ρ){w':World}(jo:Option Nat) (k:Nat) (o':O) (u:Value) (hkb:k∉s.base)
  (hos:w'.os=w.os) (htape:w'.tape=w.tape) (hout:w'.output=w.output) (hsize:w.heap.size≤w'.heap.size)
  (hblock:∀b,b<w.heap.size→(∀j,jo=some j→(s.objs j).isSome=true→blockOf (ρ j)≠some b)→w'.heap[b]? = w.heap[b]?)
  (hnew:∀b,blockOf u=some b→w.heap.size≤b∨∃j,jo=some j∧(s.objs j).isSome=true∧blockOf (ρ j)=some b)
  (hrel:∀C',(view B.hid (own ρ s.objs) w).le C'→relO (fun i=>if i=k then u else ρ i) C' w' u o'):Rel B (s.mv jo k o') a w' (fun i=>if i=k then u else ρ i):=by
 refine h.change jo k o' rfl (fun i hi=>by simp[hi]) (fun hj=>absurd hj hkb) (fun i u C hr=>Qen (fun i hi=>by simp only[List.mem_singleton] at hi;simp[hi]) _ _ hr) (fun i hi o1 ho1 => ?_) (by simp[St.mv])
  hos htape hout hsize hblock (fun b hb=>hnew b (by simpa using hb)) (by simpa using hrel)
 have e:(i==k)=false:=by simpa using hi
 simp only[St.mv,e,Bool.false_eq_true,if_false] at ho1
 split at ho1
 ·cases ho1
 ·rename_i hj
  simp only[Option.map_eq_some_iff] at ho1
  obtain⟨o,h1,rfl⟩:=ho1
  exact⟨by simpa using hj,o,h1,fun C w u hr=>relO_kill (fun i hi=>by simp only[List.mem_singleton] at hi;simp[hi]) o hr⟩
theorem Rel.set (h:Rel B s a w ρ){w':World}(j:Nat) (o o':O) (hj:s.objs j=some o)
  (hos:w'.os=w.os) (htape:w'.tape=w.tape) (hout:w'.output=w.output) (hsize:w.heap.size≤w'.heap.size)
  (hblock:∀b,b<w.heap.size→blockOf (ρ j)≠some b→w'.heap[b]? = w.heap[b]?)
  (hrel:∀C',(view B.hid (own ρ s.objs) w).le C'→relO ρ C' w' (ρ j) o'):Rel B (s.set j o') a w' ρ:=by
 refine h.change (some j) j o' rfl (fun _ _=>rfl) (fun _=>rfl) (fun _ _ _ hr=>hr) (fun i hi o1 ho1 => ?_) (by simp[St.set])
  hos htape hout hsize (fun b hb hn=>hblock b hb (hn j rfl (by simp[hj]))) (fun b hb => .inr ⟨j,rfl,by simp[hj],hb⟩) hrel
 have e:(i==j)=false:=by simpa using hi
 simp only[St.set,e,Bool.false_eq_true,if_false] at ho1
 exact⟨fun hji=>hi (Option.some.inj hji).symm,o1,ho1,fun _ _ _ hr=>hr⟩
end
end Go.Ab
