namespace Go.Stable
variable {α:Type}
def alike (le:α→α→Bool)(x y:α):Bool:=le x y&&le y x
def SS (le:α→α→Bool)(L R:List α):Prop:=R.Pairwise (fun a b=>le a b=true)∧∀x,R.filter (alike le x)=L.filter (alike le x)
theorem Qcz {le:α→α→Bool}(h:∀a,le a a=true) (x:α):alike le x x=true:=by simp[alike,h]
theorem SS.mem {le:α→α→Bool}(hr:∀a,le a a=true){L R:List α}(h:∀x,R.filter (alike le x)=L.filter (alike le x)) (x:α):x∈R↔x∈L:=by
 have e:=h x
 constructor
 ·intro hx
  have:x∈R.filter (alike le x):=List.mem_filter.2 ⟨hx,Qcz hr x⟩
  rw[e] at this
  exact(List.mem_filter.1 this).1
 ·intro hx
  have:x∈L.filter (alike le x):=List.mem_filter.2 ⟨hx,Qcz hr x⟩
  rw[←e] at this
  exact(List.mem_filter.1 this).1
theorem uniq {le:α→α→Bool}(hr:∀a,le a a=true):∀{R S:List α},R.Pairwise (fun a b=>le a b=true)→S.Pairwise (fun a b=>le a b=true)→
  (∀x,R.filter (alike le x)=S.filter (alike le x))→R=S
 |[],S,_,_,h=>by
  cases S with
  |nil=>rfl
  |cons s S=>
   have:=h s
   rw[List.filter_cons_of_pos (Qcz hr s)] at this
   simp at this
 |r::R,[],_,_,h=>by
  have:=h r
  rw[List.filter_cons_of_pos (Qcz hr r)] at this
  simp at this
 |r::R,s::S,hR,hS,h=>by
  have h1:r∈s::S:=(SS.mem hr h r).1 (List.mem_cons_self ..)
  have h2:s∈r::R:=(SS.mem hr h s).2 (List.mem_cons_self ..)
  have l1:le s r=true:=by
   rcases List.mem_cons.1 h1 with e|e
   ·rw[e];exact hr s
   ·exact(List.pairwise_cons.1 hS).1 r e
  have l2:le r s=true:=by
   rcases List.mem_cons.1 h2 with e|e
   ·rw[e];exact hr r
   ·exact(List.pairwise_cons.1 hR).1 s e
  have hrs:alike le r s=true:=by simp[alike,l1,l2]
  have e0:=h r
  rw[List.filter_cons_of_pos (Qcz hr r),List.filter_cons_of_pos hrs] at e0
  injection e0 with e1 _
  subst e1
  rw[uniq hr (List.pairwise_cons.1 hR).2 (List.pairwise_cons.1 hS).2 fun x=>by
   have:=h x
   rw[List.filter_cons,List.filter_cons] at this
   split at this
   ·injection this
   ·exact this]
theorem SS.uniq {le:α→α→Bool}(hr:∀a,le a a=true){L R S:List α}(h1:SS le L R) (h2:SS le L S):R=S:=
 Go.Stable.uniq hr h1.1 h2.1 fun x=>(h1.2 x).trans (h2.2 x).symm
def mg (le:α→α→Bool):List α→List α→List α
 |[],V=>V
 |u::U,[]=>u::U
 |u::U,v::V=>if le u v then u::mg le U (v::V) else v::mg le (u::U) V
termination_by U V=>U.length+V.length
theorem mg_nil {le:α→α→Bool}(U:List α):mg le U []=U:=by cases U<;>simp[mg]
theorem mg_mem {le:α→α→Bool}(x:α):∀(U V:List α),x∈mg le U V↔x∈U∨x∈V
 |[],V=>by simp[mg]
 |u::U,[]=>by simp[mg]
 |u::U,v::V=>by
  rw[mg]
  split
  ·rw[List.mem_cons,mg_mem x U (v::V),List.mem_cons (b:=u),or_assoc]
  ·rw[List.mem_cons,mg_mem x (u::U) V,List.mem_cons (b:=v)]
   constructor<;>(rintro (h|h|h))<;>simp[h]
termination_by U V=>U.length+V.length
theorem Qcb {le:α→α→Bool}:∀(U V:List α),(mg le U V).length=U.length+V.length
 |[],V=>by simp[mg]
 |u::U,[]=>by simp[mg]
 |u::U,v::V=>by
  rw[mg]
  split
  ·rw[List.length_cons,Qcb U (v::V)];simp;omega
  ·rw[List.length_cons,Qcb (u::U) V];simp;omega
termination_by U V=>U.length+V.length
theorem Qe1 {le:α→α→Bool}(ht:∀a b c,le a b=true→le b c=true→le a c=true) (ho:∀a b,le a b=true∨le b a=true):∀(U V:List α),
  U.Pairwise (fun a b=>le a b=true)→V.Pairwise (fun a b=>le a b=true)→(mg le U V).Pairwise (fun a b=>le a b=true)
 |[],V,_,hV=>by simpa[mg] using hV
 |u::U,[],hU,_=>by simpa[mg] using hU
 |u::U,v::V,hU,hV=>by
  have hU':=List.pairwise_cons.1 hU
  have hV':=List.pairwise_cons.1 hV
  rw[mg]
  split
  ·rename_i huv
   refine List.pairwise_cons.2 ⟨fun y hy => ?_,Qe1 ht ho U (v::V) hU'.2 hV⟩
   rcases (mg_mem y _ _).1 hy with h|h
   ·exact hU'.1 y h
   ·rcases List.mem_cons.1 h with rfl|h
    ·exact huv
    ·exact ht _ _ _ huv (hV'.1 y h)
  ·rename_i huv
   have hvu:le v u=true:=(ho v u).resolve_right huv
   refine List.pairwise_cons.2 ⟨fun y hy => ?_,Qe1 ht ho (u::U) V hU hV'.2⟩
   rcases (mg_mem y _ _).1 hy with h|h
   ·rcases List.mem_cons.1 h with rfl|h
    ·exact hvu
    ·exact ht _ _ _ hvu (hU'.1 y h)
   ·exact hV'.1 y h
termination_by U V=>U.length+V.length
theorem mg_filter {le:α→α→Bool}(ht:∀a b c,le a b=true→le b c=true→le a c=true) (x:α):∀(U V:List α),
  U.Pairwise (fun a b=>le a b=true)→V.Pairwise (fun a b=>le a b=true)→(mg le U V).filter (alike le x)=U.filter (alike le x)++V.filter (alike le x)
 |[],V,_,hV=>by simp[mg]
 |u::U,[],hU,_=>by simp[mg]
 |u::U,v::V,hU,hV=>by
  have hU':=List.pairwise_cons.1 hU
  have hV':=List.pairwise_cons.1 hV
  rw[mg]
  split
  ·rename_i huv
   rw[List.filter_cons,mg_filter ht x U (v::V) hU'.2 hV,List.filter_cons (xs:=U)]
   split<;>rfl
  ·rename_i huv
   rw[List.filter_cons,mg_filter ht x (u::U) V hU hV'.2,List.filter_cons (xs:=V)]
   split
   ·rename_i hxv
    have h0:(u::U).filter (alike le x)=[]:=by
     refine List.filter_eq_nil_iff.2 fun y hy hxy=>huv ?_
     simp only[alike,Bool.and_eq_true] at hxv hxy
     have h1:le y v=true:=ht _ _ _ hxy.2 hxv.1
     rcases List.mem_cons.1 hy with rfl|h
     ·exact h1
     ·exact ht _ _ _ (hU'.1 y h) h1
    rw[h0]
    rfl
   ·rfl
termination_by U V=>U.length+V.length
theorem Qcg {le:α→α→Bool}{A2 B2:List α}:∀(A1 B1:List α),(∀a∈A1,∀b∈B2,le a b=true)→(∀a∈A2,∀b∈B1,le a b=false)→
  mg le (A1++A2) (B1++B2)=mg le A1 B1++mg le A2 B2
 |[],[],_,_=>by simp[mg]
 |[],b::B1,h1,h2=>by
  have ih:=Qcg [] B1 h1 fun a ha c hc=>h2 a ha c (List.mem_cons_of_mem _ hc)
  simp only[List.nil_append,mg] at ih ⊢
  cases A2 with
  |nil=>simp[mg]
  |cons a A2=>
   rw[List.cons_append,mg,if_neg (by simp[h2 a (List.mem_cons_self ..) b (List.mem_cons_self ..)]),ih,List.cons_append]
 |a::A1,[],h1,h2=>by
  have ih:=Qcg A1 [] (fun c hc=>h1 c (List.mem_cons_of_mem _ hc)) h2
  simp only[List.nil_append,mg_nil] at ih ⊢
  cases B2 with
  |nil=>simp[mg_nil]
  |cons b B2=>
   rw[List.cons_append,mg,if_pos (h1 a (List.mem_cons_self ..) b (List.mem_cons_self ..)),ih,List.cons_append]
 |a::A1,b::B1,h1,h2=>by
  rw[List.cons_append,List.cons_append,mg,mg]
  split
  ·have ih:=Qcg A1 (b::B1) (fun c hc=>h1 c (List.mem_cons_of_mem _ hc)) h2
   rw[←List.cons_append,ih,List.cons_append]
  ·have ih:=Qcg (a::A1) B1 h1 fun a ha c hc=>h2 a ha c (List.mem_cons_of_mem _ hc)
   rw[←List.cons_append,ih,List.cons_append]
termination_by A1 B1=>A1.length+B1.length
theorem SS.merge {le:α→α→Bool}(ht:∀a b c,le a b=true→le b c=true→le a c=true) (ho:∀a b,le a b=true∨le b a=true){U V U' V':List α}(h1:SS le U U') (h2:SS le V V'):
  SS le (U++V) (mg le U' V'):=
 ⟨Qe1 ht ho _ _ h1.1 h2.1,fun x=>by rw[mg_filter ht x _ _ h1.1 h2.1,h1.2,h2.2,List.filter_append]⟩
def insS (le:α→α→Bool)(R:List α)(x:α):List α:=mg le R [x]
def isort (le:α→α→Bool)(L:List α):List α:=L.foldl (insS le) []
theorem SS.nil {le:α→α→Bool}:SS le ([]:List α) []:=⟨List.Pairwise.nil,fun _=>rfl⟩
theorem SS.one {le:α→α→Bool}(x:α):SS le [x] [x]:=⟨List.pairwise_singleton _ _,fun _=>rfl⟩
theorem isort_aux {le:α→α→Bool}(ht:∀a b c,le a b=true→le b c=true→le a c=true) (ho:∀a b,le a b=true∨le b a=true):∀(L L0 R0:List α),SS le L0 R0→SS le (L0++L) (L.foldl (insS le) R0)
 |[],L0,R0,h=>by simpa using h
 |x::L,L0,R0,h=>by
  have:=isort_aux ht ho L (L0++[x]) (insS le R0 x) (h.merge ht ho (SS.one x))
  simpa using this
theorem Qgm {le:α→α→Bool}(ht:∀a b c,le a b=true→le b c=true→le a c=true) (ho:∀a b,le a b=true∨le b a=true) (L:List α):SS le L (isort le L):=by
 have:=isort_aux ht ho L [] [] SS.nil
 rw[List.nil_append] at this
 exact this
theorem isort_mg {le:α→α→Bool}(hr:∀a,le a a=true) (ht:∀a b c,le a b=true→le b c=true→le a c=true) (ho:∀a b,le a b=true∨le b a=true) (U V:List α):
  mg le (isort le U) (isort le V)=isort le (U++V):=
 SS.uniq hr ((Qgm ht ho U).merge ht ho (Qgm ht ho V)) (Qgm ht ho (U++V))
theorem insS_back {le:α→α→Bool}(x:α):∀(R S:List α),(∀a∈R,le a x=true)→(∀a,S.head? = some a→le a x=false)→insS le (R++S) x=R++x::S
 |[],[],_,_=>by simp[insS,mg]
 |[],s::S,_,h=>by
  have:=h s rfl
  simp[insS,mg,this]
 |r::R,S,h1,h2=>by
  have:=insS_back x R S (fun a ha=>h1 a (List.mem_cons_of_mem _ ha)) h2
  rw[insS] at this ⊢
  rw[List.cons_append,mg,if_pos (h1 r (List.mem_cons_self ..)),this,List.cons_append]
end Go.Stable
