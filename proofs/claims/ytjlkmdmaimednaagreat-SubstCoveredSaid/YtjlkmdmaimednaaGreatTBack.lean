import Derived.Shelf.Abstract
import Derived.WalkKit
import Derived.OwnWalkIn
import Derived.TacticsInMore
import Derived.LoopNIn
import Derived.LoopIn
import Derived.Test.YtjlkmdmaimednaaGreatRA1
import Derived.Test.YtjlkmdmaimednaaGreatAbRf
set_option linter.unusedVariables false
set_option linter.unusedSimpArgs false
namespace Go.Proofs.YtjlkmdmaimednaaGreat.Pure
open Go Go.RowKit Go.Ab Go.Proofs Go.Shelf Go.Proofs.YtjlkmdmaimednaaGreat.R
set_option maxRecDepth 100000 in
set_option maxHeartbeats 4000000 in
theorem back1 (F:Fence) (n:Nat) (h69:F.fn 119) (hro:F.round=none) (hn:1≤n) (l b0 o0:Nat) (len:Nat) (J:Nat→(Nat→Prop)→World→Prop) (Jx:World→Prop)
  (hd:∀k hid W,J k hid W→∃b off cap,W.cell? ⟨b0,o0,none⟩=some (.slice (some ⟨b,off,none⟩) len cap)∧∀j,k=j+1→j<len→∃cs:Nat→Value,(∀i,i<9→W.cell? ⟨b,off+j*9+i,none⟩=some (cs i))∧
   YieldAt F (n-1) Tryz.prog l #[.int .i64 (j:Int),.agg #[cs 0,cs 1,cs 2,cs 3,cs 4,cs 5,cs 6,cs 7,cs 8]] W (fun e W'=>(e = .returned (.bool true)∧∃hid',J j hid' W')∨(e = .returned (.bool false)∧Jx W')))
  (hl:len≤9223372036854775807) (hid:Nat→Prop) (W:World) (h0:J len hid W):
  CallsIn F n Tryz.prog 119 #[.func (.yield l) #[] #[],.pointer (some ⟨b0,o0,none⟩)] W (fun e W'=>(∃u,e = .returned u)∧((∃hid',J 0 hid' W')∨Jx W')):=by
 refine callsIn_of_wp Tryz.func119 rfl h69 ?_ hro
 obtain⟨b,off,cap,hBs,_⟩:=hd _ _ _ h0
 simp only[Tryz.ntmps119,List.size_toArray,List.length_cons,List.length_nil,Nat.reduceAdd,Nat.reduceSub,Array.replicate_succ,Array.replicate_zero,List.push_toArray,List.append_toArray,List.nil_append,List.cons_append]
 gi_wp2
 have hlen:(len:Int)≤9223372036854775807:=by omega
 gi_loopw [3] (fun i wr=>∃k:Nat,k≤len∧i = .int .i64 ((k:Int)-1)∧∃hid,J k hid wr)
  (fun i _=>(intOf i+1).toNat)
 case atStart=>exact⟨len,Nat.le_refl _,by rfl,hid,h0⟩
 case round=>
  obtain⟨k,hk,rfl,hid1,hJ⟩:=hrel
  cases k with
  |zero=>
   gi_wp2
   go_end0
   exact⟨⟨_,rfl⟩,.inl ⟨_,hJ⟩⟩
  |succ j=>
   obtain⟨b1,off1,cap1,hBs1,hcc⟩:=hd _ _ _ hJ
   obtain⟨cs,hcc,fn,tmps,assign,body,hy,hR⟩:=hcc j rfl (by omega)
   have c0:=hcc 0 (by omega)
   have c1:=hcc 1 (by omega)
   have c2:=hcc 2 (by omega)
   have c3:=hcc 3 (by omega)
   have c4:=hcc 4 (by omega)
   have c5:=hcc 5 (by omega)
   have c6:=hcc 6 (by omega)
   have c7:=hcc 7 (by omega)
   have c8:=hcc 8 (by omega)
   simp only[Nat.add_zero] at c0
   have e1:((j+1:Nat):Int)-1=(j:Int):=by omega
   simp only[e1]
   have hj0:(0:Int)≤(j:Int):=by omega
   have hj1:(j:Int)<(len:Int):=by omega
   gi_wp2
   refine hR.mono ?_
   rintro e W3 (⟨rfl,hid3,hJ3⟩|⟨rfl,hJx3⟩)
   ·gi_wp2
    go_roundw
    case rel=>exact⟨j,by omega,rfl,hid3,hJ3⟩
    case measure=>simp[intOf]
   ·gi_wp2
    refine bodyPost_ret (results_none rfl _ _ _) rfl ?_
    exact⟨⟨_,rfl⟩,.inr hJx3⟩
set_option maxRecDepth 100000 in
set_option maxHeartbeats 4000000 in
theorem back0 (F:Fence) (n:Nat) (h69:F.fn 119) (hro:F.round=none) (l b0 o0 cap:Nat) (a:Option Addr) (J:World→Prop)
  (W:World) (hBs:W.cell? ⟨b0,o0,none⟩=some (.slice a 0 cap)) (h0:J W):
  CallsIn F n Tryz.prog 119 #[.func (.yield l) #[] #[],.pointer (some ⟨b0,o0,none⟩)] W (fun e W'=>(∃u,e = .returned u)∧J W'):=by
 refine callsIn_of_wp Tryz.func119 rfl h69 ?_ hro
 simp only[Tryz.ntmps119,List.size_toArray,List.length_cons,List.length_nil,Nat.reduceAdd,Nat.reduceSub,Array.replicate_succ,Array.replicate_zero,List.push_toArray,List.append_toArray,List.nil_append,List.cons_append]
 gi_wp2
 gi_loopw [3] (fun i wr=>i = .int .i64 (-1)∧J wr) (fun _ _=>0)
 case atStart=>exact⟨rfl,h0⟩
 case round=>
  obtain⟨rfl,hJ⟩:=hrel
  gi_wp2
  go_end0
  exact⟨⟨_,rfl⟩,hJ⟩
theorem Back_ok:BackC Tryz.prog 119 9 zaa.enc (fun x_:zaa=>(.agg [(.t (str x_.Lot.ISIN)),(.t (i64 x_.Lot.Qty)),(.t (str x_.Asset.ISIN)),(.t (i64 x_.Asset.Issuer)),(.t (i64 x_.Asset.Rating)),(.t (i64 x_.Asset.Maturity)),(.t (str x_.Asset.Currency)),(.t (i64 x_.Price)),(.t (i64 x_.Cut))])):=by
 refine⟨Tryz.call119,fun l v xs J Jx hdata hgrow hround hid W h0 => ?_⟩
 have hcell:∀k hid W,J k hid W→∃b0 o0 c,v = .pointer (some ⟨b0,o0,none⟩)∧W.cell? ⟨b0,o0,none⟩=some c∧rep (view hid (fun _=>False) W) (.sl 9 (xs.map zaa.enc)) c:=by
  intro k hid W hJ
  have:=(hdata k hid W hJ).2
  simp only[rep,repRow] at this
  obtain⟨b0,o0,rfl,⟨c,hc,_,hr⟩,_⟩:=this
  exact⟨b0,o0,c,rfl,(Qae.1 hc).2.2,by simp only[rep];exact hr⟩
 obtain⟨b0,o0,c0,rfl,hc0,hr0⟩:=hcell _ _ _ h0
 have hcell':∀k hid W,J k hid W→∃c,W.cell? ⟨b0,o0,none⟩=some c∧rep (view hid (fun _=>False) W) (.sl 9 (xs.map zaa.enc)) c:=by
  intro k hid W hJ
  obtain⟨b,o,c,e,h1,h2⟩:=hcell k hid W hJ
  simp only[Value.pointer.injEq,Option.some.injEq,Addr.mk.injEq,and_true] at e
  obtain⟨rfl,rfl⟩:=e
  exact⟨c,h1,h2⟩
 cases xs with
 |nil=>
  have hs:∃a cap,c0 = .slice a 0 cap:=by
   simp only[rep,List.map_nil,List.length_nil] at hr0
   rcases hr0 with⟨_,h1|⟨ad,cap,h1,_⟩⟩|⟨b,off,cap,h1,_⟩
   ·exact⟨_,_,h1⟩
   ·exact⟨_,_,h1⟩
   ·exact⟨_,_,h1⟩
  obtain⟨a,cap,rfl⟩:=hs
  refine((callsIn_wide (n:=1)).1 (back0 (FR none) 1 FR_fn rfl l b0 o0 cap a (fun W=>J 0 hid W) W hc0 h0)).mono ?_
  rintro e W' ⟨h1,h2⟩
  exact⟨h1,.inl ⟨_,h2⟩⟩
 |cons x xs=>
  have hlen:(x::xs).length≤9223372036854775807:=by
   simp only[rep,List.length_map] at hr0
   rcases hr0 with⟨h1,_⟩|⟨b,off,cap,_,h2,h3,_⟩
   ·cases h1
   ·simp only[maxLen] at h3;omega
  refine(callsIn_wide (n:=1)).1 (back1 (FR none) 1 FR_fn rfl (by omega) l b0 o0 (x::xs).length J Jx ?_ hlen hid W h0)
  intro k hid W hJ
  obtain⟨c,hc,hr⟩:=hcell' k hid W hJ
  simp only[rep] at hr
  rcases hr with⟨h1,_⟩|⟨b,off,cap,rfl,h2,h3,h4⟩
  ·cases h1
  ·refine⟨b,off,cap,by rw[hc,List.length_map],fun j hk hj => ?_⟩
   subst hk
   obtain⟨y,hy⟩:∃y,(x::xs)[j]? = some y:=⟨_,List.getElem?_eq_getElem hj⟩
   have hrow:=(Qax h4 (k:=j) (r:=zaa.enc y) (by rw[List.getElem?_map,hy];rfl)).2
   have hget:∀i t,(zaa.enc y)[i]? = some (.v t)→W.cell? ⟨b,off+j*9+i,none⟩=some t:=by
    intro i t hi
    obtain⟨c,h5,_,h6⟩:=Qa9 hrow hi
    simp only[rep] at h6
    subst h6
    exact(Qae.1 h5).2.2
   refine⟨fun i=>match (zaa.enc y)[i]? with|some (.v t)=>t|_=>undef,fun i hi => ?_,?_⟩
   ·have h9:i=0∨i=1∨i=2∨i=3∨i=4∨i=5∨i=6∨i=7∨i=8:=by omega
    rcases h9 with rfl|rfl|rfl|rfl|rfl|rfl|rfl|rfl|rfl<;>exact hget _ _ rfl
   ·refine hround j hid W y _ hy hJ ?_
    simp only[relA,relAs]
    exact⟨_,rfl,_,_,rfl,by simp only[rep];rfl,_,_,rfl,by simp only[rep];rfl,_,_,rfl,by simp only[rep];rfl,_,_,rfl,by simp only[rep];rfl,_,_,rfl,by simp only[rep];rfl,_,_,rfl,by simp only[rep];rfl,_,_,rfl,by simp only[rep];rfl,_,_,rfl,by simp only[rep];rfl,_,_,rfl,by simp only[rep];rfl,rfl⟩
set_option maxHeartbeats 1000000 in
theorem backward_in (a:Option Addr) (len cap:Nat) (w:World):
  CallsIn Fence.wide 0 Tryz.prog 66 #[.slice a len cap] w fun e w'=>e = .returned (.func (.func 119) #[] #[.pointer (some ⟨w.heap.size,0,none⟩)])∧w'=w.alloc (.cells #[.slice a len cap] 76):=by
 refine callsIn_of_wp Tryz.func66 rfl trivial ?_ rfl
 simp only[Tryz.ntmps66,List.size_toArray,List.length_cons,List.length_nil,Nat.reduceAdd,Nat.reduceSub,Array.replicate_succ,Array.replicate_zero,List.push_toArray,List.append_toArray,List.nil_append,List.cons_append]
 gi_wp2
 go_ret
 exact⟨rfl,rfl⟩
theorem Backward_ok (l:List zaa):BackwardR Tryz.prog 66 119 9 zaa.enc l:=by
 refine⟨Tryz.call66,fun hid ρ w us hH hr => ?_⟩
 simp only[relAs,relA] at hr
 obtain⟨u,us',rfl,hu,rfl⟩:=hr
 have hs:∃a len cap,u = .slice a len cap:=by
  simp only[rep] at hu
  rcases hu with⟨_,h1|⟨ad,cap,h1,_⟩⟩|⟨b,off,cap,h1,_⟩
  ·exact⟨_,_,_,h1⟩
  ·exact⟨_,_,_,h1⟩
  ·exact⟨_,_,_,h1⟩
 obtain⟨a,len,cap,rfl⟩:=hs
 have hno:∀b,¬ own ρ (ofO []) b:=by
  rintro b ⟨i,hi,_⟩
  simp[ofO] at hi
 refine((callsIn_wide (n:=0)).1 (backward_in a len cap w)).mono ?_
 rintro e w' ⟨rfl,rfl⟩
 have hbs:Beside (own ρ (ofO [])) w (w.alloc (.cells #[.slice a len cap] 76)):=Beside.alloc w _
 refine⟨_,_,ρ,_,⟨rfl,rfl⟩,rfl,hH.beside hbs,?_,(Frm.refl w _).alloc _,fun i hi=>by simp[ofO] at hi⟩
 simp only[relA,relAs]
 refine⟨_,rfl,_,_,rfl,?_,rfl⟩
 simp only[rep,repRow]
 refine⟨w.heap.size,0,rfl,⟨.slice a len cap,?_,rfl,?_⟩,trivial⟩
 ·rw[Qae]
  refine⟨hno _,fun h=>by have:=hH.hlt _ h;omega,?_⟩
  have:=World.alloc_heap_new w (.cells #[.slice a len cap] 76)
  unfold World.cell?
  simp only[]
  rw[this];rfl
 ·have:=Qcf hbs.view _ _ hu
  simp only[rep] at this
  exact this
end Go.Proofs.YtjlkmdmaimednaaGreat.Pure
