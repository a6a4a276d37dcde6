/- Texts put together. -/
import Derived.Test.YtjlkmdmaimednaaGreatAbCl
import Derived.Shelf.SlGeneric
import Derived.Shelf.SlicesE.Clone
import Derived.Ground.SlgnProg
import Derived.Test.YtjlkmdmaimednaaGreatRA
import Derived.WalkKit
import Derived.Deep.RegionLaw
import Derived.Shelf.RegionOpenPlain
import Derived.Deep.LoopGhost
import Derived.Lib.SliceRun
import Derived.Laws.IdiomCopy
import Derived.Test.YtjlkmdmaimednaaGreatAbIn
import Derived.Test.YtjlkmdmaimednaaGreatIN0
import Derived.Test.YtjlkmdmaimednaaGreatTLotB
import Derived.Test.YtjlkmdmaimednaaGreatTBask
import Derived.Test.YtjlkmdmaimednaaGreatTSpB
namespace Go.Proofs
open Go.Shelf
def Tryz.clone70_ren:Go.Shelf.Ren:=⟨fun | 41=>70 | n=>n,fun | 22=>30 | 23=>49 | 4=>4 | n=>n,fun | n=>n⟩
theorem Tryz.clone70:Go.Proofs.SlLaysE0.n41 Tryz.prog Tryz.clone70_ren:={
 mixed:=by kernel_rfl
 f41:=⟨Tryz.f70.name,by decide,Tryz.func70.trans (congrArg some (by kernel_rfl))⟩
 t4:=Tryz.underlying4
 a4:=Tryz.isAgg4
 z4:=Tryz.sizeOf4
 v4:=Tryz.zeroValue4
 t22:=Tryz.underlying30
 a22:=Tryz.isAgg30
 z22:=Tryz.sizeOf30
 v22:=Tryz.zeroValue30 }
end Go.Proofs
namespace Go.Proofs.YtjlkmdmaimednaaGreat.Pure
open Go Go.Ab Go.Proofs Go.Proofs.YtjlkmdmaimednaaGreat.R
theorem Clone70_r {l:List zab} (h:l.length≤1000000000):CloneR Tryz.prog 70 2 zab.enc l l:=by
 have hi0:(Tryz.prog.info? 49).map (fun i=>(i.zero.map (·.cells.size),i.size,i.bytes))=some (some 2,2,24):=by kernel_rfl
 obtain⟨i0,hi⟩:∃ i0,Tryz.prog.info? 49=some i0:=Option.isSome_iff_exists.1 (by kernel_rfl)
 rw [hi] at hi0
 simp only [Option.map_some,Option.some.injEq,Prod.mk.injEq,Option.map_eq_some_iff] at hi0
 obtain⟨⟨z,hz,hzs⟩,h1,h2⟩:=hi0
 exact Con_clone Tryz.clone70 i0 z 2 24 hi hz h1 h2 hzs (by decide) Tryz.sizeOf49 (enters_of Tryz.func70 (by kernel_rfl) rfl) (by rw [List.length_map]; simp only [maxLen]; omega) (by rw [List.length_map]; omega)
end Go.Proofs.YtjlkmdmaimednaaGreat.Pure
namespace Go.Proofs.YtjlkmdmaimednaaGreat.Pure
open Go Go.Ab Go.RowKit Go.Lib Go.Proofs Go.Shelf
set_option linter.unusedVariables false
set_option linter.unusedSimpArgs false
namespace Del
structure Aside (p:Prop):Prop where
 out:p
theorem run_clear_cells {P:Program} {n:Nat} (w:World) (t e ty:TypeId) (z:Value) (ht:P.underlying t=some (.slice e)) (hv:∀ w,(zeroValue e).run P w = .ok z w) (h1:∀ v∈(Builtin.zeroCells z.cells n).toList,v.oneCell'=true) (b o c:Nat) (hn:0<n)
  (hc:∀ j,j<(Builtin.zeroCells z.cells n).toList.length→(w.cell? ⟨b,o+j,none⟩).isSome=true) (hf:∀ j,j<(Builtin.zeroCells z.cells n).toList.length→w.frozen? ⟨b,o+j,none⟩=false):
  (Builtin.clear_ #[t] ty #[.slice (some ⟨b,o,none⟩) n c]).run P w = .ok (.tuple #[]) (w.setCells b o (Builtin.zeroCells z.cells n).toList):=by
 have hst:=run_storeCells_cells (P:=P) b o (Builtin.zeroCells z.cells n).toList 0 w (by simpa using hc) (by simpa using hf) h1
 simp only [Nat.add_zero] at hst
 obtain⟨m,rfl⟩:∃ m,n=m+1:=⟨n-1,by omega⟩
 simp [Builtin.clear_,run_underlying ht,hv,hst]
set_option maxHeartbeats 4000000 in
set_option maxRecDepth 1000000 in
theorem walk (g n cap i j:Nat) (et:TypeId) (cur:Array Value) (inner:List Value) (w:World) (hlt:i<j) (c2:j≤n) (hcap:n≤cap) (hmax':cap≤9223372036854775807) (hh:w.heap[g]? = some (.cells cur et (0,0))) (hsz:cur.size=cap*2)
  (hil:inner.length=n*2) (hcur:∀ q,q<n*2→cur[q]? = inner[q]?) (hone:∀ u∈inner,u.oneCell'=true):
  ∃ zs:List Value,zs.length=(n-(i+(n-j)))*2∧
   Calls Tryz.prog 72 #[.slice (some ⟨g,0,none⟩) n cap, .int .i64 (i:Int), .int .i64 (j:Int)] w fun e w'=>
    e = .returned (.slice (some ⟨g,0,none⟩) (i+(n-j)) cap)∧w'=(w.drew.setCells g (0+i*2) (inner.drop (j*2))).setCells g ((i+(n-j))*2) zs:=by
 have cell:∀ (W:World) (cc:Array Value),W.heap[g]? = some (.cells cc et (0,0))→∀ q,W.cell? ⟨g,q,none⟩=cc[q]? :=fun W cc e q=>by simp [World.cell?,e]
 have froz:∀ (W:World) (cc:Array Value),W.heap[g]? = some (.cells cc et (0,0))→∀ q,W.frozen? ⟨g,q,none⟩=false:=fun W cc e q=>by simp [World.frozen?,e]
 obtain⟨news,hnews⟩:∃ news,news=inner.drop (j*2):=⟨_,rfl⟩
 have hlen:news.length=(n-j)*2:=by rw [hnews,List.length_drop,hil]; omega
 obtain⟨A,hA,hsrc⟩:∃ A:Addr,(if cap=j then some (⟨g,0,none⟩:Addr) else some ⟨g,j*2,none⟩)=some A∧Aside (∀ t u,news[t]? = some u→w.drew.cell? (A.add t)=some u):=by
  by_cases hc:cap=j
  ·refine⟨⟨g,0,none⟩,by simp [hc],⟨fun t u hu => ?_⟩⟩
   have h0:news.length=0:=by rw [hlen]; omega
   rw [List.length_eq_zero_iff.1 h0] at hu
   simp at hu
  ·refine⟨⟨g,j*2,none⟩,by simp [hc],⟨fun t u hu => ?_⟩⟩
   have ht:t<(n-j)*2:=by
    have:=(List.getElem?_eq_some_iff.1 hu).1
    rwa [hlen] at this
   rw [hnews,List.getElem?_drop] at hu
   rw [show (⟨g,j*2,none⟩:Addr).add t=⟨g,j*2+t,none⟩ by unfold Addr.add; simp]
   refine (cell w.drew cur hh _).trans ?_
   rw [hcur _ (by omega)]
   exact hu
 have s1:Aside (news.length=(n-j)*2):=⟨hlen⟩
 have s2:Aside (∀ u∈news,u.oneCell'=true):=⟨fun u hu=>by rw [hnews] at hu; exact hone u (List.mem_of_mem_drop hu)⟩
 have s3:Aside (∀ t,t<news.length→(w.drew.cell? ⟨g,0+i*2+t,none⟩).isSome=true∧w.drew.frozen? ⟨g,0+i*2+t,none⟩=false):=⟨fun t ht=>by
  rw [hlen] at ht
  refine⟨?_,froz w.drew cur hh _⟩
  rw [cell w.drew cur hh _,Array.getElem?_eq_getElem (by omega)]
  rfl⟩
 obtain⟨W1,hW1⟩:∃ W1,W1=w.drew.setCells g (0+i*2) news:=⟨_,rfl⟩
 obtain⟨cur1,hh1,hsz1,hl1⟩:=cells_row (e:=et) news (0+i*2) w.drew cur hh (by rw [hlen]; omega)
 rw [← hW1] at hh1
 obtain⟨zs,hzs⟩:∃ zs,zs=(Builtin.zeroCells (Value.agg #[(.string ⟨#[]⟩),(.int .i64 0)]).cells (n-(i+(n-j)))).toList:=⟨_,rfl⟩
 have hzl:zs.length=(n-(i+(n-j)))*2:=by rw [hzs]; simp [Builtin.zeroCells,Value.cells]
 have hz1:∀ v∈zs,v.oneCell'=true:=fun v hv=>by
  rw [hzs] at hv
  simp only [Builtin.zeroCells,Value.cells,Array.toList_map,List.mem_map] at hv
  obtain⟨q,_,rfl⟩:=hv
  rcases Nat.mod_two_eq_zero_or_one q with e | e <;> simp [e] <;> rfl
 have hcl:∀ ty,(Builtin.clear_ #[30] ty #[.slice (some ⟨g,(i+(n-j))*2,none⟩) (n-(i+(n-j))) (cap-(i+(n-j)))]).run Tryz.prog W1 = .ok (.tuple #[]) (W1.setCells g ((i+(n-j))*2) zs):=fun ty=>by
  rw [hzs] at hzl hz1 ⊢
  refine run_clear_cells W1 30 49 ty (.agg #[(.string ⟨#[]⟩),(.int .i64 0)]) Tryz.underlying30 ?_ hz1 g _ _ (by omega) (fun q hq => ?_) (fun q hq=>froz W1 cur1 hh1 _)
  ·intro w
   rfl
  ·rw [hzl] at hq
   rw [cell W1 cur1 hh1,Array.getElem?_eq_getElem (by omega)]
   rfl
 have hW:Aside (W1=w.drew.setCells g (0+i*2) news):=⟨hW1⟩
 have hmix:Tryz.prog.follows Departure.mixedOrders=true:=by kernel_rfl
 have hic:i≤cap:=by omega
 have hjc:j≤cap:=by omega
 obtain⟨i0,hi0,hz0,hz2,hz3⟩:=info_parts info49
 refine⟨zs,hzl, ?_⟩
 rw [← hnews]
 clear hW1 hh1 hsz1 hl1 hzs hzl hz1 hnews hlen hone hcur cell froz hh hsz hil
 go_enter Tryz.func72,Tryz.ntmps72
 go_wp2_with fail
 go_region_law_o (refine step_append_room rfl (.tmp 22) (.tmp 25) 30 rfl 49 i0 2 Tryz.underlying30 hi0 hz2 g 0 i cap (by simp [Act.eval,Act.put]) A (n-j) (cap-j) news (by simp [Act.eval,Act.put]) s1.out hsrc.out s2.out (by omega) s3.out ?_; rw [← hW.out])
 go_wp2
 go_ret
 exact⟨rfl,by rw [hW.out]⟩
end Del
set_option maxRecDepth 100000 in
set_option maxHeartbeats 2000000 in
theorem Con_delete {rows:List (List T)} {i:Nat} (hi:i<rows.length) (ef:Enter Tryz.prog 72):
  Con Tryz.prog 72 [.ref 620, .t (i64 i), .t (i64 ((i:Int)+1))] [(620, .row 2 rows)] (fun r o=>r = .ref 1600∧o=[(1600, .row 2 (rows.take i++rows.drop (i+1)))]):=by
 refine⟨ef,fun hid σ w us hh hu => ?_⟩
 have o0:=hh.obj 620 _ rfl
 simp only [relAs,relA,i64,rep] at hu
 obtain⟨_,_,rfl,rfl,_,_,rfl,rfl,_,_,rfl,rfl,rfl⟩:=hu
 simp only [relO] at o0
 rcases o0 with⟨h0,_⟩ | ⟨g,cap,cur,e,hs,hc,hn,hm,hz,hr,hp⟩
 ·subst h0; simp at hi
 have og:own σ (ofO [(620,O.row 2 rows)]) g:=⟨620,rfl,by rw [hs]; exact block_some hp⟩
 obtain⟨cs,l1,r1,c1,v1⟩:=flat_rows _ _ 0 hr
 have hm':cap≤9223372036854775807:=hm
 have lr:(rows.take i++rows.drop (i+1)).length=i+(rows.length-(i+1)):=by simp; omega
 have rd:∀ q,q<rows.length*2→cur[q]? = cs[q]? :=fun q hq=>by
  obtain⟨v,hv⟩:∃ v,cs[q]? = some v:=⟨_,List.getElem?_eq_getElem (by omega)⟩
  have:=v1 q v hv
  rw [hv]; simpa using this
 have reps:∀ C',(view hid (own σ (ofO [(620,O.row 2 rows)])) w).le C'→repRows C' 2 (rows.take i++rows.drop (i+1)) (fun k=>(cs.take (i*2)++cs.drop ((i+1)*2))[k]?) 0:=fun C' hC=>by
  have a1:=repRows_mono hC _ _ _ _ 0 (fun _ _ x=>x) (rr_take i r1)
  have a3:=repRows_mono hC _ _ _ _ 0 (fun _ _ x=>x) (rr_drop (i+1) r1)
  have t1:(cs.take (i*2)).length=(rows.take i).length*2:=by rw [List.length_take,List.length_take,l1]; omega
  exact rr_app t1 a1 a3
 rw [hs]
 obtain⟨zs,zl,hcall⟩:=Del.walk g rows.length cap i (i+1) e cur cs w (by omega) (by omega) hn hm' hc hz l1 rd c1
 refine hcall.mono ?_
 rintro ev w' ⟨rfl,rfl⟩
 have ld:(cs.drop ((i+1)*2)).length=(rows.length-(i+1))*2:=by rw [List.length_drop,l1]; omega
 obtain⟨cur1,x1,x2,x3⟩:=cells_row (e:=e) (cs.drop ((i+1)*2)) (0+i*2) w.drew cur hc (by rw [ld,hz]; omega)
 obtain⟨cur3,y1,y2,y3⟩:=cells_row (e:=e) zs ((i+(rows.length-(i+1)))*2) _ cur1 x1 (by rw [zl,x2,hz]; omega)
 obtain⟨s1,s2,s3,s4⟩:=cells_same g zs ((i+(rows.length-(i+1)))*2) (w.drew.setCells g (0+i*2) (cs.drop ((i+1)*2)))
 obtain⟨t1,t2,t3,t4⟩:=cells_same g (cs.drop ((i+1)*2)) (0+i*2) w.drew
 refine own_out (P:=Tryz.prog) (g:=g) (cap:=cap) (e:=e) (cur:=cur3) hh ⟨rfl,rfl⟩ (by rw [lr]) (.inl og) y1 (by rw [lr]; omega) hm (by rw [y2,x2]; exact hz) hp (fun C' hC=>repRows_move (reps C' hC) fun k c hk hkc => ?_)
  (by rw [s1,t1]; rfl) (by rw [s2,t2]; rfl) (by rw [s3,t3]; rfl) (by rw [s4,t4]; exact Nat.le_refl _) (fun b hb hlt=>by rw [cells_far _ _ b hb,cells_far _ _ b hb]; rfl) rfl
 simp only [Nat.zero_add] at hkc ⊢
 rw [lr] at hk
 rw [y3 k,if_neg (by omega),x3 k,ld]
 by_cases k1:k<i*2
 ·rw [List.getElem?_append_left (by rw [List.length_take,l1]; omega),List.getElem?_take,if_pos k1] at hkc
  rw [if_neg (by omega),rd k (by omega)]; exact hkc
 ·rw [List.getElem?_append_right (by rw [List.length_take,l1]; omega),List.length_take,l1,Nat.min_eq_left (by omega)] at hkc
  rw [if_pos ⟨by omega,by omega⟩, ← hkc]; congr 1; omega
end Go.Proofs.YtjlkmdmaimednaaGreat.Pure
namespace Go.Proofs.YtjlkmdmaimednaaGreat.Pure
open Go Go.Ab Go.Stable Go.Proofs.YtjlkmdmaimednaaGreat.R
set_option linter.unusedVariables false
def Ql (b:List zab):Prop:=∀ x∈b,1≤x.Qty∧x.Qty≤1125899906842624
def plusG:List zab→List zab→List zab×Int
 |a,[]=>(a,0)
 |a,x::b=>if (addG a x).2=0 then plusG (addG a x).1 b else ([],(addG a x).2)
theorem plus_ok:∀ (b a:List zab),Lk a→Ql b→(plusG a b).2=0→Lk (plusG a b).1
 |[],a,h,_,_=>h
 |x::b,a,h,hq,h0=>by
  unfold plusG at h0 ⊢
  split at h0
  ·rename_i c
   rw [if_pos c]
   exact plus_ok b _ (add_ok h (hq x (by simp)) c) (fun y hy=>hq y (by simp [hy])) h0
  ·rename_i c; exact absurd h0 c
theorem plus_l {b:List zab} (hl:b.length≤1000000) (hq:Ql b) {Q0:Int→Prop} {Q1:List zab→Prop}:∀ (n i:Nat) (a:List zab),n+i=b.length→Lk a→(∀ e,e≠0→plusG a (b.drop i)=([],e)→Q0 e)→(∀ r,plusG a (b.drop i)=(r,0)→Q1 r)→zec_L0 b Q0 Q1 (i:Int) a:=by
 intro n
 induction n with
 |zero=>
  intro i a h ha q0 q1
  refine zec_l0 ?_
  unfold zec_w0
  rw [lenM_eq]
  rw [List.drop_of_length_le (by omega)] at q1
  exact Br.neg (by omega) (Lf.i (q1 a rfl))
 |succ n ih=>
  intro i a h ha q0 q1
  have hi:i<b.length:=by omega
  refine zec_l0 ?_
  unfold zec_w0
  rw [lenM_eq]
  rw [List.drop_eq_getElem_cons hi] at q0 q1
  have hx:=hq b[i] (List.getElem_mem hi)
  have g:b[(i:Int).toNat]? = some b[i]:=by simp [hi]
  refine Br.pos (by omega) ⟨b[i],Got.i ⟨_,add_r ha hx,Br.i (fun c=>Lf.i (q0 _ c ?_)) (fun c=>Num.n (by omega) ?_)⟩ (by omega) g⟩
  ·unfold plusG; rw [if_neg c]
  ·have c:=Decidable.not_not.1 c
   refine ih (i+1) _ (by omega) (add_ok ha hx c) (fun e he hp=>q0 e he ?_) (fun r hp=>q1 r ?_)
   ·unfold plusG; rw [if_pos c]; exact hp
   ·unfold plusG; rw [if_pos c]; exact hp
theorem Plus_r {a b:List zab} (ha:Lk a) (hl:b.length≤1000000) (hq:Ql b):zec_r a b (plusG a b):=by
 refine zec_of ?_
 unfold zec_w
 refine⟨_,Clone70_r (by have:=ha.len; omega),plus_l hl hq b.length 0 a (by omega) ha (fun e _ hp=>Rt.i ?_) (fun r hp=>Rt.i ?_)⟩
 ·rw [List.drop_zero] at hp; exact hp.symm
 ·rw [List.drop_zero] at hp; exact hp.symm
theorem rplus_l {b:List zab} (hl:b.length≤1000000) (hq:Ql b) {Q0:Int→Prop} {Q1:List zab→Prop}:∀ (n i:Nat) (a:List zab),n+i=b.length→Lk a→(∀ e,e≠0→plusG a (b.drop i)=([],e)→Q0 e)→(∀ r,plusG a (b.drop i)=(r,0)→Q1 r)→zbb_L0 b Q0 Q1 a (i:Int):=by
 intro n
 induction n with
 |zero=>
  intro i a h ha q0 q1
  refine zbb_l0 ?_
  unfold zbb_w0
  rw [lenM_eq]
  rw [List.drop_of_length_le (by omega)] at q1
  exact Br.neg (by omega) (Lf.i (q1 a rfl))
 |succ n ih=>
  intro i a h ha q0 q1
  have hi:i<b.length:=by omega
  refine zbb_l0 ?_
  unfold zbb_w0
  rw [lenM_eq,lenM_eq]
  rw [List.drop_eq_getElem_cons hi] at q0 q1
  have hx:=hq b[i] (List.getElem_mem hi)
  have g:b[(i:Int).toNat]? = some b[i]:=by simp [hi]
  have z:(0:Int)≤(i:Int):=by omega
  have al:=ha.len
  have qb:=qtyG_bd (s:=b[i].ISIN) ha.pos
  have S:=Set_r (a:=a) (s:=b[i].ISIN) (q:=qtyG b[i].ISIN a+b[i].Qty) (by omega)
  rw [beq_false_of_ne (by omega:qtyG b[i].ISIN a+b[i].Qty≠0)] at S
  have over:¬ (qtyG b[i].ISIN a=0∧64≤a.length)→1125899906842624-qtyG b[i].ISIN a<b[i].Qty→Q0 9:=fun c1 c2=>q0 9 (by decide) (by
   have e:addG a b[i]=([],9):=by unfold addG; rw [if_neg c1,if_pos c2]
   unfold plusG; rw [e]; rfl)
  have okk:¬ (qtyG b[i].ISIN a=0∧64≤a.length)→¬ 1125899906842624-qtyG b[i].ISIN a<b[i].Qty→zbb_L0 b Q0 Q1 (setG b[i].ISIN (qtyG b[i].ISIN a+b[i].Qty) false a) ((i:Int)+1):=fun c1 c2=>by
   have e:addG a b[i]=(setG b[i].ISIN (qtyG b[i].ISIN a+b[i].Qty) false a,0):=by unfold addG; rw [if_neg c1,if_neg c2]
   have e0:(addG a b[i]).2=0:=by rw [e]
   have hn:=add_ok ha hx e0
   have:=ih (i+1) (addG a b[i]).1 (by omega) hn (fun e he hp=>q0 e he (by unfold plusG; rw [if_pos e0]; exact hp)) (fun r hp=>q1 r (by unfold plusG; rw [if_pos e0]; exact hp))
   rw [e] at this; exact this
  refine Br.pos (by omega) ⟨b[i],Got.i ⟨_,Qty_r (by omega),Br.i (fun c=>Br.i (fun c2=>Lf.i (q0 2 (by decide) ?_)) (fun c2=>Got.i (Num.n (by omega) (Br.i (fun c3=>Lf.i (over (by omega) (by omega))) (fun c3=>Got.i (Got.i (Num.n (by omega) ⟨_,S,Num.n (by omega) (okk (by omega) (by omega))⟩) z g) z g))) z g))
   (fun c=>Got.i (Num.n (by omega) (Br.i (fun c3=>Lf.i (over (by omega) (by omega))) (fun c3=>Got.i (Got.i (Num.n (by omega) ⟨_,S,Num.n (by omega) (okk (by omega) (by omega))⟩) z g) z g))) z g)⟩ z g⟩
  have e:addG a b[i]=([],2):=by unfold addG; rw [if_pos ⟨c,by omega⟩]
  unfold plusG; rw [e]; rfl
theorem RPlus_r {a b:List zab} (ha:Lk a) (hl:b.length≤1000000) (hq:Ql b):zbb_r a b (plusG a b):=by
 refine zbb_of ?_
 unfold zbb_w
 refine rplus_l hl hq b.length 0 a (by omega) ha (fun e _ hp=>Rt.i ?_) (fun r hp=>Rt.i ?_)
 ·rw [List.drop_zero] at hp; exact hp.symm
 ·rw [List.drop_zero] at hp; exact hp.symm
theorem setG_T {s:ByteArray} {q:Int} {B:List zab}:∀ {A:List zab},(∀ y∈A,y.ISIN≠s)→setG s q true (A++B)=A++setG s q true B
 |[],_=>rfl
 |y::A,h=>by
  simp only [List.cons_append,setG]
  rw [if_neg (h y (by simp)),setG_T fun z hz=>h z (by simp [hz])]; rfl
def subG (a:List zab)(x:zab):List zab:=setG x.ISIN (qtyG x.ISIN a-x.Qty) (qtyG x.ISIN a-x.Qty==0) a
def minusG:List zab→List zab→List zab×Int
 |a,[]=>(a,0)
 |a,x::b=>if qtyG x.ISIN a<x.Qty then ([],20) else minusG (subG a x) b
theorem sub_cases {a:List zab} {x:zab} (ha:Lk a) (hx:1≤x.Qty∧x.Qty≤1125899906842624) (c:¬ qtyG x.ISIN a<x.Qty):∃ A y B,a=A++y::B∧(∀ z∈A,sLt z.ISIN x.ISIN)∧(∀ z∈y::B,¬ sLt z.ISIN x.ISIN)∧hit x.ISIN (y::B)=true∧y.ISIN=x.ISIN∧qtyG x.ISIN a=y.Qty∧
  subG a x=if y.Qty-x.Qty=0 then A++B else A++⟨x.ISIN,y.Qty-x.Qty⟩::B:=by
 obtain⟨A,B,e,hA,hB,h⟩:=add_cases (x:=x) ha
 rcases h with⟨_,h,_⟩ | ⟨y,B',rfl,h1,h2,h3,h4⟩
 ·omega
 ·refine⟨A,y,B',e,hA,hB,h1,h2,h3, ?_⟩
  unfold subG
  rw [h3]
  have hs:=ha.srt
  rw [e] at hs
  have hz:=gone_B (List.pairwise_append.1 hs).2.1 (hB y (by simp))
  by_cases k:y.Qty-x.Qty=0
  ·rw [if_pos k,k]
   show setG x.ISIN 0 true a=_
   rw [e,setG_T (fun z hz e=>by have:=hA z hz; rw [e] at this; exact sLt_irrefl _ this)]
   simp only [setG]
   rw [if_pos h2,setG_B hz]; rfl
  ·rw [if_neg k,beq_false_of_ne k]
   exact h4 _
theorem sub_ok {a:List zab} {x:zab} (ha:Lk a) (hx:1≤x.Qty∧x.Qty≤1125899906842624) (c:¬ qtyG x.ISIN a<x.Qty):Lk (subG a x):=by
 obtain⟨A,y,B,e,hA,hB,_,h2,h3,h4⟩:=sub_cases ha hx c
 rw [h4]
 have hs:=ha.srt
 rw [e] at hs
 obtain⟨sA,sB,sAB⟩:=List.pairwise_append.1 hs
 have hl:=ha.len
 have hp:=ha.pos
 rw [e] at hl hp
 simp only [List.length_append,List.length_cons] at hl
 have hy:=hp y (by simp)
 split
 ·refine⟨List.pairwise_append.2 ⟨sA,(List.pairwise_cons.1 sB).2,fun z hz w hw=>sAB z hz w (by simp [hw])⟩,fun z hz=>hp z ?_,by simp; omega⟩
  rcases List.mem_append.1 hz with hz | hz <;> simp [hz]
 ·refine⟨List.pairwise_append.2 ⟨sA,List.pairwise_cons.2 ⟨fun w hw => ?_,(List.pairwise_cons.1 sB).2⟩,fun z hz w hw => ?_⟩,fun z hz => ?_,by simp; omega⟩
  ·have:=(List.pairwise_cons.1 sB).1 w hw
   rw [h2] at this; exact this
  ·rcases List.mem_cons.1 hw with rfl | hw
   ·exact hA z hz
   ·exact sAB z hz w (by simp [hw])
  ·rcases List.mem_append.1 hz with hz | hz
   ·exact hp z (by simp [hz])
   ·rcases List.mem_cons.1 hz with rfl | hz
    ·show 1≤y.Qty-x.Qty∧y.Qty-x.Qty≤1125899906842624
     omega
    ·exact hp z (by simp [hz])
theorem minus_or:∀ (b a:List zab),(∃ r,minusG a b=(r,0))∨minusG a b=([],20)
 |[],a => .inl ⟨a,rfl⟩
 |x::b,a=>by
  unfold minusG
  split
  ·exact .inr rfl
  ·exact minus_or b _
theorem minus_ok:∀ (b a:List zab),Lk a→Ql b→(minusG a b).2=0→Lk (minusG a b).1
 |[],a,h,_,_=>h
 |x::b,a,h,hq,h0=>by
  unfold minusG at h0 ⊢
  split at h0
  ·cases h0
  ·rename_i c
   rw [if_neg c]
   exact minus_ok b _ (sub_ok h (hq x (by simp)) c) (fun y hy=>hq y (by simp [hy])) h0
theorem minus_l {b:List zab} (hl:b.length≤1000000) (hq:∀ x∈b,1≤x.Qty) {Q0:Unit→Prop} {Q1:List zab→Prop}:∀ (n i:Nat) (a:List zab),n+i=b.length→Lk a→(minusG a (b.drop i)=([],20)→Q0 ())→(∀ r,minusG a (b.drop i)=(r,0)→Q1 r)→zdj_L0 b Q0 Q1 (i:Int) a:=by
 intro n
 induction n with
 |zero=>
  intro i a h ha q0 q1
  refine zdj_l0 ?_
  unfold zdj_w0
  rw [lenM_eq]
  rw [List.drop_of_length_le (by omega)] at q1
  exact Br.neg (by omega) (Lf.i (q1 a rfl))
 |succ n ih=>
  intro i a h ha q0 q1
  have hi:i<b.length:=by omega
  refine zdj_l0 ?_
  unfold zdj_w0
  rw [lenM_eq]
  rw [List.drop_eq_getElem_cons hi] at q0 q1
  have hx1:=hq b[i] (List.getElem_mem hi)
  have al:=ha.len
  have g:b[(i:Int).toNat]? = some b[i]:=by simp [hi]
  obtain⟨A,B,e,hA,hB,hc⟩:=add_cases (x:=b[i]) ha
  have hp:=place_r hA hB (by rw [← e]; omega)
  rw [← e] at hp
  refine Br.pos (by omega) ⟨b[i],Got.i ⟨_,hp, ?_⟩ (by omega) g⟩
  rcases hc with⟨c1,c2,_⟩ | ⟨y,B',rfl,c1,c4,c2,_⟩
  ·refine Br.t (by rw [c1]; rfl) (Lf.i (q0 ?_))
   unfold minusG; rw [if_pos (by omega)]
  ·have ha2:A.length<a.length:=by rw [e]; simp
   have g2:a[((A.length:Nat):Int).toNat]? = some y:=by rw [e]; simp
   have i2:((A.length:Nat):Int).toNat<a.length:=by simpa using ha2
   have yq:=ha.pos y (by rw [e]; simp)
   refine Br.f (by rw [c1]; rfl) (InL.i ⟨y,EltG.i (Br.i (fun c=>Lf.i (q0 ?_)) (fun c=>InL.i (EltG.i (Num.n (by omega) (InL.i (EltS.i ?_ g2) (by omega) i2)) g2) (by omega) i2)) g2⟩ (by omega) i2)
   ·unfold minusG; rw [if_pos (by rw [c2]; exact c)]
   ·have c':¬ qtyG b[i].ISIN a<b[i].Qty:=by rw [c2]; exact c
    have hx:1≤b[i].Qty∧b[i].Qty≤1125899906842624:=⟨hx1,by omega⟩
    have hsub:subG a b[i]=if y.Qty-b[i].Qty=0 then A++B' else A++⟨b[i].ISIN,y.Qty-b[i].Qty⟩::B':=by
     obtain⟨A2,y2,B2,e2,hA2,hB2,_,k2,k3,k4⟩:=sub_cases ha hx c'
     have hs:=ha.srt
     have:A2=A∧y2::B2=y::B':=by
      have l1:∀ (A A2:List zab) (B B2:List zab),A++B=A2++B2→(∀ z∈A,sLt z.ISIN b[i].ISIN)→(∀ z∈A2,sLt z.ISIN b[i].ISIN)→(∀ z∈B,¬ sLt z.ISIN b[i].ISIN)→(∀ z∈B2,¬ sLt z.ISIN b[i].ISIN)→A2=A∧B2=B:=by
       intro A
       induction A with
       |nil=>
        intro A2 B B2 e h1 h2 h3 h4
        cases A2 with
        |nil=>exact⟨rfl,e.symm⟩
        |cons z A2=>exact absurd (h2 z (by simp)) (h3 z (by rw [List.nil_append] at e; rw [e]; simp))
       |cons w A ih=>
        intro A2 B B2 e h1 h2 h3 h4
        cases A2 with
        |nil=>exact absurd (h1 w (by simp)) (h4 w (by rw [List.nil_append] at e; rw [← e]; simp))
        |cons z A2=>
         simp only [List.cons_append,List.cons.injEq] at e
         obtain⟨rfl,e⟩:=e
         obtain⟨r1,r2⟩:=ih A2 B B2 e (fun z hz=>h1 z (by simp [hz])) (fun z hz=>h2 z (by simp [hz])) h3 h4
         exact⟨by rw [r1],r2⟩
      exact l1 A A2 (y::B') (y2::B2) (by rw [← e, ← e2]) hA hA2 hB hB2
     obtain⟨rfl,k⟩:=this
     cases k
     exact k4
    have next:zdj_L0 b Q0 Q1 ((i:Int)+1) (subG a b[i]):=ih (i+1) _ (by omega) (sub_ok ha hx c') (fun k=>q0 (by unfold minusG; rw [if_neg c']; exact k)) (fun r k=>q1 r (by unfold minusG; rw [if_neg c']; exact k))
    have es:a.set ((A.length:Nat):Int).toNat ⟨y.ISIN,y.Qty-b[i].Qty⟩=A++⟨b[i].ISIN,y.Qty-b[i].Qty⟩::B':=by
     rw [e,Int.toNat_natCast,List.set_append_right _ _ (Nat.le_refl _),Nat.sub_self,c4]; rfl
    rw [es]
    have g3:(A++(⟨b[i].ISIN,y.Qty-b[i].Qty⟩:zab)::B')[((A.length:Nat):Int).toNat]? = some ⟨b[i].ISIN,y.Qty-b[i].Qty⟩:=by simp
    have i3:((A.length:Nat):Int).toNat<(A++(⟨b[i].ISIN,y.Qty-b[i].Qty⟩:zab)::B').length:=by simp
    refine InL.i ⟨_,EltG.i (Br.i (fun k=>Num.n (by omega) ⟨A++B', ?_,Num.n (by omega) ?_⟩) (fun k=>Num.n (by omega) ?_)) g3⟩ (by omega) i3
    ·have:=Con_delete (rows:=(A++(⟨b[i].ISIN,y.Qty-b[i].Qty⟩:zab)::B').map zab.enc) (i:=A.length) (by simp) (enters_of Tryz.func72 (by kernel_rfl) rfl)
     unfold DelR
     rw [show ((A++B').map zab.enc)=((A++(⟨b[i].ISIN,y.Qty-b[i].Qty⟩:zab)::B').map zab.enc).take A.length++((A++(⟨b[i].ISIN,y.Qty-b[i].Qty⟩:zab)::B').map zab.enc).drop (A.length+1) by rw [← List.map_take, ← List.map_drop, ← List.map_append]; congr 1; rw [List.take_left, ← List.drop_drop]; simp]
     exact this
    ·rw [hsub,if_pos k] at next; exact next
    ·rw [hsub,if_neg k] at next; exact next
theorem Minus_r {a b:List zab} (ha:Lk a) (hl:b.length≤1000000) (hq:∀ x∈b,1≤x.Qty):zdj_r a b (minusG a b):=by
 refine zdj_of ?_
 unfold zdj_w
 refine⟨_,Clone70_r (by have:=ha.len; omega),minus_l hl hq b.length 0 a (by omega) ha (fun hp=>Rt.i ?_) (fun r hp=>Rt.i ?_)⟩
 ·rw [List.drop_zero] at hp; exact hp.symm
 ·rw [List.drop_zero] at hp; exact hp.symm
theorem rminus_l {b:List zab} (hl:b.length≤1000000) (hq:∀ x∈b,1≤x.Qty) {Q0:Unit→Prop} {Q1:List zab→Prop}:∀ (n i:Nat) (a:List zab),n+i=b.length→Lk a→(minusG a (b.drop i)=([],20)→Q0 ())→(∀ r,minusG a (b.drop i)=(r,0)→Q1 r)→zbw_L0 b Q0 Q1 a (i:Int):=by
 intro n
 induction n with
 |zero=>
  intro i a h ha q0 q1
  refine zbw_l0 ?_
  unfold zbw_w0
  rw [lenM_eq]
  rw [List.drop_of_length_le (by omega)] at q1
  exact Br.neg (by omega) (Lf.i (q1 a rfl))
 |succ n ih=>
  intro i a h ha q0 q1
  have hi:i<b.length:=by omega
  refine zbw_l0 ?_
  unfold zbw_w0
  rw [lenM_eq]
  rw [List.drop_eq_getElem_cons hi] at q0 q1
  have hx1:=hq b[i] (List.getElem_mem hi)
  have al:=ha.len
  have qb:=qtyG_bd (s:=b[i].ISIN) ha.pos
  have g:b[(i:Int).toNat]? = some b[i]:=by simp [hi]
  have z:(0:Int)≤(i:Int):=by omega
  refine Br.pos (by omega) ⟨b[i],Got.i ⟨_,Qty_r (by omega),Got.i (Br.i (fun c=>Lf.i (q0 ?_)) (fun c=>Got.i (Got.i (Num.n (by omega) ⟨_,Set_r (by omega),Num.n (by omega) (ih (i+1) _ (by omega) (sub_ok ha ⟨hx1,by omega⟩ c) (fun k=>q0 ?_) (fun r k=>q1 r ?_))⟩) z g) z g)) z g⟩ z g⟩
  ·unfold minusG; rw [if_pos c]
  ·unfold minusG; rw [if_neg c]; exact k
  ·unfold minusG; rw [if_neg c]; exact k
theorem RMinus_r {a b:List zab} (ha:Lk a) (hl:b.length≤1000000) (hq:∀ x∈b,1≤x.Qty):zbw_r a b (minusG a b):=by
 refine zbw_of ?_
 unfold zbw_w
 refine rminus_l hl hq b.length 0 a (by omega) ha (fun hp=>Rt.i ?_) (fun r hp=>Rt.i ?_)
 ·rw [List.drop_zero] at hp; exact hp.symm
 ·rw [List.drop_zero] at hp; exact hp.symm
def bothG (b:List zab):List zab→List zab
 |[]=>[]
 |x::a=>if 0<min x.Qty (qtyG x.ISIN b) then ⟨x.ISIN,min x.Qty (qtyG x.ISIN b)⟩::bothG b a else bothG b a
theorem LQty_r {a:List zab} (ha:Lk a) (s:ByteArray):zhc_r a s (qtyG s a):=by
 refine zhc_of ?_
 unfold zhc_w
 have al:=ha.len
 obtain⟨A,B,e,hA,hB,hc⟩:=add_cases (x:=⟨s,1⟩) ha
 have hp:=place_r hA hB (by rw [← e]; omega)
 rw [← e] at hp
 refine⟨_,hp, ?_⟩
 rcases hc with⟨c1,c2,_⟩ | ⟨y,B',rfl,c1,c4,c2,_⟩
 ·exact Br.t (by rw [c1]; rfl) (Rt.i c2.symm)
 ·have g2:a[((A.length:Nat):Int).toNat]? = some y:=by rw [e]; simp
  exact Br.f (by rw [c1]; rfl) ⟨y,Got.i (Rt.i c2.symm) (by omega) g2⟩
theorem both_l {a b:List zab} (hl:a.length≤1000000) (hb:Lk b) {Q:List zab→Prop}:∀ (n i:Nat) (acc:List zab),n+i=a.length→acc.length≤i→Q (acc++bothG b (a.drop i))→zfb_L0 b a Q (i:Int) acc:=by
 intro n
 induction n with
 |zero=>
  intro i acc h hc q
  refine zfb_l0 ?_
  unfold zfb_w0
  rw [lenM_eq]
  rw [List.drop_of_length_le (by omega)] at q
  exact Br.neg (by omega) (Lf.i (by simpa [bothG] using q))
 |succ n ih=>
  intro i acc h hc q
  have hi:i<a.length:=by omega
  refine zfb_l0 ?_
  unfold zfb_w0
  rw [lenM_eq]
  rw [List.drop_eq_getElem_cons hi,bothG] at q
  have g:a[(i:Int).toNat]? = some a[i]:=by simp [hi]
  refine Br.pos (by omega) ⟨a[i],Got.i ⟨_,LQty_r hb _,Br.i (fun c=>App2.i (app24 (by simp; omega)) (Num.n (by omega) (ih (i+1) _ (by omega) (by simp; omega) ?_))) (fun c=>Num.n (by omega) (ih (i+1) _ (by omega) (by omega) ?_))⟩ (by omega) g⟩
  ·rw [if_pos c] at q; rw [List.append_assoc]; exact q
  ·rw [if_neg c] at q; exact q
theorem Both_r {a b:List zab} (hl:a.length≤1000000) (hb:Lk b):zfb_r a b (bothG b a):=by
 refine zfb_of ?_
 unfold zfb_w
 exact both_l hl hb a.length 0 [] (by omega) (by simp) (Rt.i (by simp))
def chkG:Option zab→Nat→List zab→Int×Int
 |_,i,[]=>(i,0)
 |p,i,x::l=>if ¬ (1≤x.Qty∧x.Qty≤1125899906842624) then (i,1) else match p with
  |none=>chkG (some x) (i+1) l
  |some y=>if ¬ sLt y.ISIN x.ISIN then (i,7) else chkG (some x) (i+1) l
theorem chkG_cons (p:Option zab) (i:Nat) (x:zab) (l:List zab):chkG p i (x::l)=if ¬ (1≤x.Qty∧x.Qty≤1125899906842624) then ((i:Int),1) else match p with
  |none=>chkG (some x) (i+1) l
  |some y=>if ¬ sLt y.ISIN x.ISIN then ((i:Int),7) else chkG (some x) (i+1) l:=by cases p <;> rfl
def checkG (l:List zab):Int×Int:=if (64:Int)<l.length then (0,2) else chkG none 0 l
def Pre (a:List zab)(i:Nat)(p:Option zab):Prop:=i=0∧p=none∨0<i∧∃ y,p=some y∧a[i-1]? = some y
theorem chk_l {a:List zab} (hl:a.length≤1000000) {P:Int×Int→Prop} {Q0:Int×Int→Prop} {Q1:Unit→Prop} (q0:∀ v,v.2≠0→P v→Q0 v) (q1:P ((a.length:Nat),0)→Q1 ()):∀ (n i:Nat) (p:Option zab),n+i=a.length→Pre a i p→P (chkG p i (a.drop i))→zde_L0 a Q0 Q1 (i:Int):=by
 intro n
 induction n with
 |zero=>
  intro i p h hp q
  refine zde_l0 ?_
  unfold zde_w0
  rw [lenM_eq]
  rw [List.drop_of_length_le (by omega)] at q
  refine Br.neg (by omega) (Lf.i (q1 ?_))
  have e:i=a.length:=by omega
  subst e
  cases p <;> exact q
 |succ n ih=>
  intro i p h hp q
  have hi:i<a.length:=by omega
  refine zde_l0 ?_
  unfold zde_w0
  rw [lenM_eq]
  rw [List.drop_eq_getElem_cons hi,chkG_cons] at q
  have g:a[(i:Int).toNat]? = some a[i]:=by simp [hi]
  have hn:Pre a (i+1) (some a[i]) := .inr ⟨by omega,_,rfl,by rw [Nat.add_sub_cancel]; exact List.getElem?_eq_getElem hi⟩
  refine Br.pos (by omega) ⟨a[i],Got.i (Br.i (fun c=>Lf.i (q0 (_,_) (fun k=>by cases k) ?_)) (fun c=>Br.i (fun c2=>Lf.i (q0 (_,_) (fun k=>by cases k) ?_)) (fun c2 => ?_))) (by omega) g⟩
  ·rw [if_pos (by omega)] at q; exact q
  ·rw [if_pos (by omega)] at q; exact q
  ·rw [if_neg (by omega)] at q
   rcases hp with⟨rfl,rfl⟩ | ⟨h0,y,rfl,hy⟩
   ·exact Br.neg (by omega) (Num.n (by omega) (ih 1 _ (by omega) hn q))
   ·have g2:a[((i:Int)-1).toNat]? = some y:=by rw [show ((i:Int)-1).toNat=i-1 by omega]; exact hy
    have q:P (if ¬ sLt y.ISIN a[i].ISIN then ((i:Int),7) else chkG (some a[i]) (i+1) (a.drop (i+1))):=q
    refine Br.pos (by omega) (Num.n (by omega) ⟨y,Got.i ?_ (by omega) g2⟩)
    rw [strLe_s]
    refine Br.i (fun c=>Lf.i (q0 (_,_) (fun k=>by cases k) ?_)) (fun c=>Num.n (by omega) (ih (i+1) _ (by omega) hn ?_))
    ·rw [if_pos c] at q; exact q
    ·rw [if_neg c] at q; exact q
theorem LCheck_r {a:List zab} (hl:a.length≤1000000):zde_r a (checkG a):=by
 refine zde_of ?_
 unfold zde_w checkG
 rw [lenM_eq]
 refine Br.i (fun c=>Rt.i (by rw [if_pos c])) (fun c => ?_)
 rw [if_neg c]
 exact chk_l hl (P:=fun v=>v=chkG none 0 a) (fun v _ hv=>Rt.i hv) (fun hv=>Rt.i hv) a.length 0 none (by omega) (.inl ⟨rfl,rfl⟩) (by rw [List.drop_zero])
theorem rchk_l {a:List zab} (hl:a.length≤1000000) {P:Int×Int→Prop} {Q0:Int×Int→Prop} {Q1:Unit→Prop} (q0:∀ v,v.2≠0→P v→Q0 v) (q1:P ((a.length:Nat),0)→Q1 ()):∀ (n i:Nat) (p:Option zab),n+i=a.length→Pre a i p→P (chkG p i (a.drop i))→zbl_L0 a Q0 Q1 (i:Int):=by
 intro n
 induction n with
 |zero=>
  intro i p h hp q
  refine zbl_l0 ?_
  unfold zbl_w0
  rw [lenM_eq]
  rw [List.drop_of_length_le (by omega)] at q
  refine Br.neg (by omega) (Lf.i (q1 ?_))
  have e:i=a.length:=by omega
  subst e
  cases p <;> exact q
 |succ n ih=>
  intro i p h hp q
  have hi:i<a.length:=by omega
  refine zbl_l0 ?_
  unfold zbl_w0
  rw [lenM_eq]
  rw [List.drop_eq_getElem_cons hi,chkG_cons] at q
  have g:a[(i:Int).toNat]? = some a[i]:=by simp [hi]
  have hn:Pre a (i+1) (some a[i]) := .inr ⟨by omega,_,rfl,by rw [Nat.add_sub_cancel]; exact List.getElem?_eq_getElem hi⟩
  have hg:zen_r a[i].Qty (decide (1≤a[i].Qty∧a[i].Qty≤1125899906842624)):=by
   refine zen_of ?_
   unfold zen_w
   refine Br.i (fun c=>Rt.i (decide_eq_decide.2 ⟨fun k=>⟨by omega,k⟩,fun k=>k.2⟩)) (fun c=>Rt.i (decide_eq_false (fun k=>c (by omega))).symm)
  refine Br.pos (by omega) ⟨a[i],Got.i ⟨_,hg,Br.i (fun c=>Lf.i (q0 (_,_) (fun k=>by cases k) ?_)) (fun c => ?_)⟩ (by omega) g⟩
  ·rw [if_pos c] at q; exact q
  ·rw [if_neg c] at q
   rcases hp with⟨rfl,rfl⟩ | ⟨h0,y,rfl,hy⟩
   ·exact Br.neg (by omega) (Num.n (by omega) (ih 1 _ (by omega) hn q))
   ·have g2:a[((i:Int)-1).toNat]? = some y:=by rw [show ((i:Int)-1).toNat=i-1 by omega]; exact hy
    have q:P (if ¬ sLt y.ISIN a[i].ISIN then ((i:Int),7) else chkG (some a[i]) (i+1) (a.drop (i+1))):=q
    refine Br.pos (by omega) (Num.n (by omega) ⟨y,Got.i (Got.i ?_ (by omega) g) (by omega) g2⟩)
    rw [strLt_s]
    refine Br.i (fun c=>Lf.i (q0 (_,_) (fun k=>by cases k) ?_)) (fun c=>Num.n (by omega) (ih (i+1) _ (by omega) hn ?_))
    ·rw [if_pos c] at q; exact q
    ·rw [if_neg c] at q; exact q
theorem RCheck17_r {a:List zab} (hl:a.length≤1000000):zbl_r a (checkG a):=by
 refine zbl_of ?_
 unfold zbl_w checkG
 rw [lenM_eq]
 refine Br.i (fun c=>Rt.i (by rw [if_pos c])) (fun c => ?_)
 rw [if_neg c]
 exact rchk_l hl (P:=fun v=>v=chkG none 0 a) (fun v _ hv=>Rt.i hv) (fun hv=>Rt.i hv) a.length 0 none (by omega) (.inl ⟨rfl,rfl⟩) (by rw [List.drop_zero])
theorem chk_ok:∀ (l:List zab) (p:Option zab) (i:Nat),(chkG p i l).2=0→l.Pairwise (fun x y=>sLt x.ISIN y.ISIN)∧(∀ x∈l,1≤x.Qty∧x.Qty≤1125899906842624)∧∀ y,p=some y→∀ x∈l,sLt y.ISIN x.ISIN
 |[],_,_,_=>⟨List.Pairwise.nil,by simp,by simp⟩
 |x::l,p,i,h=>by
  rw [chkG_cons] at h
  by_cases c:1≤x.Qty∧x.Qty≤1125899906842624
  ·rw [if_neg (fun k=>k c)] at h
   have key:(chkG (some x) (i+1) l).2=0∧∀ y,p=some y→sLt y.ISIN x.ISIN:=by
    cases p with
    |none=>exact⟨h,fun y hy=>by cases hy⟩
    |some y=>
     have h:(if ¬ sLt y.ISIN x.ISIN then ((i:Int),(7:Int)) else chkG (some x) (i+1) l).2=0:=h
     by_cases k:sLt y.ISIN x.ISIN
     ·rw [if_neg (fun q=>q k)] at h; exact⟨h,fun z hz=>by cases hz; exact k⟩
     ·rw [if_pos k] at h; cases h
   obtain⟨k1,k2,k3⟩:=chk_ok l (some x) (i+1) key.1
   refine⟨List.pairwise_cons.2 ⟨fun z hz=>k3 x rfl z hz,k1⟩,fun z hz => ?_,fun y hy z hz => ?_⟩
   ·rcases List.mem_cons.1 hz with rfl | hz
    ·exact c
    ·exact k2 z hz
   ·rcases List.mem_cons.1 hz with rfl | hz
    ·exact key.2 y hy
    ·exact sLt_trans (key.2 y hy) (k3 x rfl z hz)
  ·rw [if_pos c] at h; cases h
theorem check_ok {l:List zab} (h:(checkG l).2=0):Lk l:=by
 unfold checkG at h
 by_cases c:(64:Int)<l.length
 ·rw [if_pos c] at h; cases h
 ·rw [if_neg c] at h
  obtain⟨h1,h2,_⟩:=chk_ok l none 0 h
  exact⟨h1,h2,by omega⟩
end Go.Proofs.YtjlkmdmaimednaaGreat.Pure
namespace Go.Proofs.YtjlkmdmaimednaaGreat.Pure
open Go Go.Ab Go.Stable Go.Proofs.YtjlkmdmaimednaaGreat.R
set_option linter.unusedVariables false
section
variable (r:List KN) (b:zav) (day:Int)
def itemsG:List zab→List HI×Int
 |[]=>([],0)
 |x::l=>if (itemS r b x day).2≠0 then ([],(itemS r b x day).2) else if whyS b (itemS r b x day).1.Asset day≠0 then ([],23) else if (itemsG l).2≠0 then ([],(itemsG l).2) else ((itemS r b x day).1::(itemsG l).1,0)
end
section
variable {r:List KN} {b:zav} {day:Int}
theorem itemsG_1 {x:zab} (l:List zab) (h:(itemS r b x day).2≠0):itemsG r b day (x::l)=([],(itemS r b x day).2):=by unfold itemsG; rw [if_pos h]
theorem itemsG_2 {x:zab} (l:List zab) (h:¬ (itemS r b x day).2≠0) (k:whyS b (itemS r b x day).1.Asset day≠0):itemsG r b day (x::l)=([],23):=by unfold itemsG; rw [if_neg h,if_pos k]
theorem itemsG_3 {x:zab} {l:List zab} (h:¬ (itemS r b x day).2≠0) (k:¬ whyS b (itemS r b x day).1.Asset day≠0) {e:Int} (he:e≠0) (m:itemsG r b day l=([],e)):itemsG r b day (x::l)=([],e):=by unfold itemsG; rw [if_neg h,if_neg k,m]; exact if_pos he
theorem itemsG_4 {x:zab} {l:List zab} (h:¬ (itemS r b x day).2≠0) (k:¬ whyS b (itemS r b x day).1.Asset day≠0) {o:List HI} (m:itemsG r b day l=(o,0)):itemsG r b day (x::l)=((itemS r b x day).1::o,0):=by unfold itemsG; rw [if_neg h,if_neg k,m]; exact if_neg (fun c=>c rfl)
end
theorem items_l {r:List KN} (h:Fine r) {c:zcy} (hb:Rules c.Basket) {l:List zab} (hl:l.length≤1000) {Q0:Int→Prop} {Q1:List HI→Prop}:∀ (n i:Nat) (acc:List HI),n+i=l.length→acc.length≤i→(∀ e,e≠0→itemsG r c.Basket c.Day (l.drop i)=([],e)→Q0 e)→(∀ o,itemsG r c.Basket c.Day (l.drop i)=(o,0)→Q1 (acc++o))→zdg_L0 l c (bk r) Q0 Q1 (i:Int) acc:=by
 intro n
 induction n with
 |zero=>
  intro i acc hn ha q0 q1
  refine zdg_l0 ?_
  unfold zdg_w0
  rw [lenM_eq]
  rw [List.drop_of_length_le (by omega)] at q1
  exact Br.neg (by omega) (Lf.i (by have:=q1 [] rfl; rwa [List.append_nil] at this))
 |succ n ih=>
  intro i acc hn ha q0 q1
  have hi:i<l.length:=by omega
  refine zdg_l0 ?_
  unfold zdg_w0
  rw [lenM_eq]
  rw [List.drop_eq_getElem_cons hi] at q0 q1
  have g:l[(i:Int).toNat]? = some l[i]:=by simp [hi]
  refine Br.pos (by omega) ⟨l[i],Got.i ⟨_,Find_r h (by have:=hb.cuts; omega) _ _, ?_⟩ (by omega) g⟩
  refine Br.i (fun c1=>Lf.i (q0 _ c1 (itemsG_1 _ c1))) (fun c1=>⟨_,Fits_r hb (item_ok h (Decidable.not_not.1 c1)),Br.i (fun c2=>Lf.i (q0 23 (by decide) (itemsG_2 _ c1 c2))) (fun c2=>App2.i (app96 (by simp; omega)) (Num.n (by omega) (ih (i+1) _ (by omega) (by simp; omega) (fun e he k=>q0 e he (itemsG_3 c1 c2 he k)) (fun o k => ?_))))⟩)
  have:=q1 _ (itemsG_4 c1 c2 k)
  rwa [List.append_assoc,List.singleton_append]
theorem Items_r {r:List KN} (h:Fine r) {c:zcy} (hb:Rules c.Basket) {l:List zab} (hl:l.length≤1000):zdg_r (bk r) c l (itemsG r c.Basket c.Day l):=by
 refine zdg_of ?_
 unfold zdg_w
 rw [lenM_eq]
 refine Mk0.i ⟨by omega,by have:(((l.length:Nat):Int)).toNat=l.length:=rfl; omega,by have:(((l.length:Nat):Int)).toNat=l.length:=rfl; unfold maxLen; omega⟩ (items_l h hb hl l.length 0 [] (by omega) (by simp) (fun e he k=>Rt.i ?_) (fun o k=>Rt.i ?_))
 ·rw [List.drop_zero] at k; exact k.symm
 ·rw [List.drop_zero] at k; exact k.symm
theorem ritems_l {r:List KN} (h:Fine r) {c:zbn} (hb:Rules c.Basket) {l:List zab} (hl:l.length≤1000) {Q0:Int→Prop} {Q1:List RI→Prop}:∀ (n i:Nat) (acc:List RI),n+i=l.length→acc.length≤i→(∀ e,e≠0→itemsG r c.Basket c.Day (l.drop i)=([],e)→Q0 e)→(∀ o,itemsG r c.Basket c.Day (l.drop i)=(o,0)→Q1 (acc++o.map toR))→zbs_L0 r l c Q0 Q1 (i:Int) acc:=by
 intro n
 induction n with
 |zero=>
  intro i acc hn ha q0 q1
  refine zbs_l0 ?_
  unfold zbs_w0
  rw [lenM_eq]
  rw [List.drop_of_length_le (by omega)] at q1
  exact Br.neg (by omega) (Lf.i (by have:=q1 [] rfl; rwa [List.map_nil,List.append_nil] at this))
 |succ n ih=>
  intro i acc hn ha q0 q1
  have hi:i<l.length:=by omega
  refine zbs_l0 ?_
  unfold zbs_w0
  rw [lenM_eq]
  rw [List.drop_eq_getElem_cons hi] at q0 q1
  have g:l[(i:Int).toNat]? = some l[i]:=by simp [hi]
  refine Br.pos (by omega) ⟨l[i],Got.i ⟨_,RFind_r h (by have:=hb.cuts; omega) _ _, ?_⟩ (by omega) g⟩
  refine Br.i (fun c1=>Lf.i (q0 _ c1 (itemsG_1 _ c1))) (fun c1=>⟨_,RWhy_r hb (item_ok h (Decidable.not_not.1 c1)),Br.i (fun c2=>Lf.i (q0 23 (by decide) (itemsG_2 _ c1 c2))) (fun c2=>App2.i (app96 (by simp; omega)) (Num.n (by omega) (ih (i+1) _ (by omega) (by simp; omega) (fun e he k=>q0 e he (itemsG_3 c1 c2 he k)) (fun o k => ?_))))⟩)
  have:=q1 _ (itemsG_4 c1 c2 k)
  rw [List.map_cons] at this
  rwa [List.append_assoc,List.singleton_append]
theorem RItems_r {r:List KN} (h:Fine r) {c:zbn} (hb:Rules c.Basket) {l:List zab} (hl:l.length≤1000):zbs_r r c l ((itemsG r c.Basket c.Day l).1.map toR,(itemsG r c.Basket c.Day l).2):=by
 refine zbs_of ?_
 unfold zbs_w
 refine ritems_l h hb hl l.length 0 [] (by omega) (by simp) (fun e he k=>Rt.i ?_) (fun o k=>Rt.i ?_)
 ·rw [List.drop_zero] at k; rw [k]; rfl
 ·rw [List.drop_zero] at k; rw [k]; rfl
def toS (c:zbn):zcy:=⟨c.Basket,c.Need,c.Have,c.Day⟩
abbrev itsG (r:List KN) (c:zbn) (l:List zab):List HI×Int:=itemsG r c.Basket c.Day l
theorem merge_lk {l:List zab} (h:¬ (mergeG [] l).2≠0):Lk (mergeG [] l).1:=by
 have e:mergeG [] l=((mergeG [] l).1,0):=by rw [← Decidable.not_not.1 h]
 exact (qtyG_merge ByteArray.empty l [] _ Lk_nil e).2
section
variable {r:List KN} {c:zbn} {x:zab} {ins:List zab}
end
abbrev lA (n:Int):zab:=⟨⟨#[65]⟩,n⟩
abbrev lB (n:Int):zab:=⟨⟨#[66]⟩,n⟩
abbrev lC (n:Int):zab:=⟨⟨#[67]⟩,n⟩
theorem ck1:(checkG [lA 5,lB 2]).2=0:=by decide +kernel
theorem ck2:(checkG [lA 3,lC 4]).2=0:=by decide +kernel
theorem bo1:bothG [lA 3,lC 4] [lA 5,lB 2]=[lA 3]:=by kernel_rfl
theorem mi1:minusG [lA 3,lC 4] [lA 3]=([lC 4],0):=by kernel_rfl
theorem mi2:minusG [lA 5,lB 2] [lA 3]=([lA 2,lB 2],0):=by kernel_rfl
theorem betw1:zgk_r [lA 5,lB 2] [lA 3,lC 4] ⟨[lC 4],[lA 2,lB 2]⟩:=by
 refine zgk_of ?_
 unfold zgk_w
 have k1:=check_ok ck1; have k2:=check_ok ck2
 have b:=Both_r (a:=[lA 5,lB 2]) (b:=[lA 3,lC 4]) (by simp) k2
 have m1:=Minus_r (a:=[lA 3,lC 4]) (b:=[lA 3]) k2 (by simp) (fun y hy=>by rw [List.mem_singleton.1 hy]; decide)
 have m2:=Minus_r (a:=[lA 5,lB 2]) (b:=[lA 3]) k1 (by simp) (fun y hy=>by rw [List.mem_singleton.1 hy]; decide)
 rw [bo1] at b; rw [mi1] at m1; rw [mi2] at m2
 exact⟨_,b,_,m1,_,m2,Rt.i rfl⟩
theorem awake_r:zeq_r true:=by
 refine zeq_of ?_
 unfold zeq_w
 have h:zgc_r [lA 5,lB 2] [lA 3,lC 4] (⟨[lC 4],[lA 2,lB 2]⟩,0):=by
  refine zgc_of ?_
  unfold zgc_w
  exact⟨_,LCheck_r (by simp),Br.neg (fun c=>c ck1) ⟨_,LCheck_r (by simp),Br.neg (fun c=>c ck2) ⟨_,betw1,Rt.i rfl⟩⟩⟩
 exact⟨_,h,Br.t rfl ⟨_,Lots_r (a:=[lC 4]) (by simp),Br.t rfl ⟨_,Lots_r (a:=[lA 2,lB 2]) (by simp),Rt.i rfl⟩⟩⟩
theorem of_r (c:zbn):zfu_r c (toS c):=zfu_of (by unfold zfu_w; exact Rt.i rfl)
def goodS19 (c:zbn)(l:List zab):Bool:=decide (basketS c.Basket=0∧c.Have.length≤80∧l.length≤80)
theorem good19 {c:zbn} {l:List zab} (hc:c.Basket.Cuts.length≤100000000000000000):zff_r c l (goodS19 c l):=by
 refine zff_of ?_
 unfold zff_w goodS19
 simp only [lenM_eq]
 refine⟨_,Basket_r hc,Br.i (fun c1=>Br.i (fun c2=>Rt.i ?_) (fun c2=>Rt.i ?_)) (fun c1=>Rt.i ?_)⟩
 ·exact decide_eq_decide.2 ⟨fun h=>⟨c1,by omega,by omega⟩,fun h=>by omega⟩
 ·exact (decide_eq_false (fun h=>c2 (by omega))).symm
 ·exact (decide_eq_false (fun h=>c1 h.1)).symm
theorem book_l {w:zed}:∀ (n i:Nat) (r:List KN),n+i=min w.Known.length 40→Fine r→r.length≤i→∃ q,Fine q∧∀ Q:(List KN)×Bool×(List zag)×(List Int)→Prop,Q (q,true,q.map (·.A),q.map (·.Price))→zch_L0 w Q r (i:Int) true (r.map (·.A)) (r.map (·.Price)):=by
 intro n
 induction n with
 |zero=>
  intro i r hn hf hr
  refine⟨r,hf,fun Q q => ?_⟩
  refine zch_l0 ?_
  unfold zch_w0
  rw [lenM_eq]
  exact Br.i (fun c1=>Br.neg (by omega) (Lf.i q)) (fun _=>Lf.i q)
 |succ n ih=>
  intro i r hn hf hr
  have hi:i<w.Known.length:=by omega
  have g:w.Known[(i:Int).toNat]? = some w.Known[i]:=by simp [hi]
  obtain⟨r',e,h1,h2,h3,h4,h5⟩:=Add_both hf.1 (by omega) w.Known[i]
  obtain⟨q,hq,k⟩:=ih (i+1) r' (by omega) ⟨h3,by omega,fun y hy=>by
   rcases h5 y hy with h | ⟨h,k⟩
   ·exact hf.2.2 y h
   ·rw [h]; exact k⟩ (by omega)
  refine⟨q,hq,fun Q hQ => ?_⟩
  refine zch_l0 ?_
  unfold zch_w0
  rw [lenM_eq]
  exact Br.pos (by omega) (Br.pos (by omega) ⟨w.Known[i],Got.i ⟨_,h1,Got.i ⟨_,h2,Num.n (by omega) (k Q hQ)⟩ (by omega) g⟩ (by omega) g⟩)
theorem book_r (w:zed):∃ q,Fine q∧zch_r w (bk q,q):=by
 obtain⟨r,hf,k⟩:=book_l (w:=w) (min w.Known.length 40) 0 [] (by omega) ⟨List.Pairwise.nil,by simp,by simp⟩ (by simp)
 have hn:zhb_r (bk []):=zhb_of (by unfold zhb_w; exact Rt.i rfl)
 by_cases hp:w.Prices.length≤100
 ·obtain⟨q,n,e,h1,h2,h3⟩:=Set_both hf.1 hf.2.1 (p:=w.Prices) (by omega)
  refine⟨q,⟨ord_A hf.1 h3.symm, ?_,fun y hy => ?_⟩,zch_of ?_⟩
  ·have:=congrArg List.length h3
   rw [List.length_map,List.length_map] at this
   have:=hf.2.1
   omega
  ·have hm:y.A∈q.map (·.A):=List.mem_map.2 ⟨y,hy,rfl⟩
   rw [h3] at hm
   obtain⟨z,hz,e⟩:=List.mem_map.1 hm
   rw [← e]; exact hf.2.2 z hz
  ·unfold zch_w
   simp only [lenM_eq]
   exact⟨_,hn,k _ (Br.pos (by omega) ⟨_,h1,_,h2,Rt.i rfl⟩)⟩
 ·refine⟨r,hf,zch_of ?_⟩
  unfold zch_w
  simp only [lenM_eq]
  exact⟨_,hn,k _ (Br.neg (by omega) (Rt.i rfl))⟩
end Go.Proofs.YtjlkmdmaimednaaGreat.Pure
namespace Go.Proofs.YtjlkmdmaimednaaGreat.Pure
open Go Go.Ab Go.Stable Go.Proofs.YtjlkmdmaimednaaGreat.R
set_option linter.unusedVariables false
def inM (r:List KN)(b:zav)(day:Int)(l:List zab):List RI:=(isort leE (inL r b day l)).map toR
theorem plan_lk {t:zau} {out:List HI} (h:¬ (planS t out).2≠0):Lk (planS t out).1.Lots:=by
 unfold planS at h ⊢
 split at h
 ·rename_i k; exact absurd k h
 ·rename_i k
  rw [if_neg k]
  exact merge_lk k
theorem top_lk {b:zav} {hv fr:List RI} {need:Int} (h:¬ (topS b hv fr need).2≠0):Lk (topS b hv fr need).1.Lots:=by
 unfold topS at h ⊢
 split at h
 ·exact absurd (by decide) h
 rename_i k1
 rw [if_neg k1]
 split at h
 ·rename_i k; exact absurd k h
 rename_i k2
 rw [if_neg k2]
 split at h
 ·rename_i k; exact absurd k h
 rename_i k3
 rw [if_neg k3]
 split at h
 ·rename_i k; exact absurd k h
 rename_i k4
 rw [if_neg k4]
 exact plan_lk h
theorem spare_lk {l:List RI} {need:Int} (h:¬ (spareS l need).2≠0):Lk (spareS l need).1:=by
 unfold spareS at h ⊢
 split at h
 ·rename_i k; exact absurd k h
 rename_i k1
 rw [if_neg k1]
 split at h
 ·rename_i k; exact absurd k h
 rename_i k2
 rw [if_neg k2]
 exact merge_lk h
section
variable (r:List KN) (c:zbn) (free:List zab)
abbrev topG:zel×Int:=topS c.Basket (inM r c.Basket c.Day c.Have) (inM r c.Basket c.Day free) c.Need
abbrev spG:List zab×Int:=spareS ((itsG r c (topG r c free).1.Lots).1.map toR) c.Need
def renewG:List zab×Int×Int:=
 if (checkG c.Have).2≠0 then ([],0,(checkG c.Have).2) else if (checkG free).2≠0 then ([],0,(checkG free).2) else if (topG r c free).2≠0 then ([],0,(topG r c free).2) else if 0<(topG r c free).1.Short then ((topG r c free).1.Lots,(topG r c free).1.Short,0) else if (itsG r c (topG r c free).1.Lots).2≠0 then ([],0,(itsG r c (topG r c free).1.Lots).2) else if (spG r c free).2≠0 then ([],0,(spG r c free).2) else ((minusG (topG r c free).1.Lots (spG r c free).1).1,0,(minusG (topG r c free).1.Lots (spG r c free).1).2)
end
section
variable {r:List KN} {c:zbn} {free:List zab}
theorem rn1 (c1:(checkG c.Have).2≠0):([],0,(checkG c.Have).2)=renewG r c free:=by unfold renewG; rw [if_pos c1]
theorem rn2 (c1:¬ (checkG c.Have).2≠0) (c2:(checkG free).2≠0):([],0,(checkG free).2)=renewG r c free:=by unfold renewG; rw [if_neg c1,if_pos c2]
theorem rn3 (c1:¬ (checkG c.Have).2≠0) (c2:¬ (checkG free).2≠0) (c3:(topG r c free).2≠0):([],0,(topG r c free).2)=renewG r c free:=by unfold renewG; rw [if_neg c1,if_neg c2,if_pos c3]
theorem rn4 (c1:¬ (checkG c.Have).2≠0) (c2:¬ (checkG free).2≠0) (c3:¬ (topG r c free).2≠0) (c4:0<(topG r c free).1.Short):((topG r c free).1.Lots,(topG r c free).1.Short,0)=renewG r c free:=by unfold renewG; rw [if_neg c1,if_neg c2,if_neg c3,if_pos c4]
theorem rn5 (c1:¬ (checkG c.Have).2≠0) (c2:¬ (checkG free).2≠0) (c3:¬ (topG r c free).2≠0) (c4:¬ 0<(topG r c free).1.Short) (c5:(itsG r c (topG r c free).1.Lots).2≠0):([],0,(itsG r c (topG r c free).1.Lots).2)=renewG r c free:=by unfold renewG; rw [if_neg c1,if_neg c2,if_neg c3,if_neg c4,if_pos c5]
theorem rn6 (c1:¬ (checkG c.Have).2≠0) (c2:¬ (checkG free).2≠0) (c3:¬ (topG r c free).2≠0) (c4:¬ 0<(topG r c free).1.Short) (c5:¬ (itsG r c (topG r c free).1.Lots).2≠0) (c6:(spG r c free).2≠0):([],0,(spG r c free).2)=renewG r c free:=by unfold renewG; rw [if_neg c1,if_neg c2,if_neg c3,if_neg c4,if_neg c5,if_pos c6]
theorem rn7 (c1:¬ (checkG c.Have).2≠0) (c2:¬ (checkG free).2≠0) (c3:¬ (topG r c free).2≠0) (c4:¬ 0<(topG r c free).1.Short) (c5:¬ (itsG r c (topG r c free).1.Lots).2≠0) (c6:¬ (spG r c free).2≠0):((minusG (topG r c free).1.Lots (spG r c free).1).1,0,(minusG (topG r c free).1.Lots (spG r c free).1).2)=renewG r c free:=by unfold renewG; rw [if_neg c1,if_neg c2,if_neg c3,if_neg c4,if_neg c5,if_neg c6]
theorem two_l {hv:zcy} {k:zat} (h1:hv.Have.length≤1000) (h2:free.length≤1000) {Q0:Int→Prop} {Q1:Unit→Prop} (q1:(checkG hv.Have).2≠0→Q0 (checkG hv.Have).2) (q2:¬ (checkG hv.Have).2≠0→(checkG free).2≠0→Q0 (checkG free).2) (q3:¬ (checkG hv.Have).2≠0→¬ (checkG free).2≠0→Q1 ()):zcx_L0 free hv k Q0 Q1 0:=by
 have e:∀ a b:List zab,lenM (eL 2 zab.enc) [a,b]=2:=fun _ _=>rfl
 refine zcx_l0 ?_
 unfold zcx_w0
 rw [e]
 refine Br.pos (by decide) (InL.i ⟨hv.Have,EltG.i ⟨_,LCheck_r (by omega),Br.i (fun c1=>Lf.i (q1 c1)) (fun c1=>Num.n (by decide) ?_)⟩ rfl⟩ (by decide) (show (0:Nat)<2 by decide))
 refine zcx_l0 ?_
 unfold zcx_w0
 rw [e]
 refine Br.pos (by decide) (InL.i ⟨free,EltG.i ⟨_,LCheck_r (by omega),Br.i (fun c2=>Lf.i (q2 c1 c2)) (fun c2=>Num.n (by decide) ?_)⟩ rfl⟩ (by decide) (show (1:Nat)<2 by decide))
 refine zcx_l0 ?_
 unfold zcx_w0
 rw [e]
 exact Br.neg (by decide) (Lf.i (q3 c1 c2))
theorem two_b {hv:zcy} {k:zat} (h1:hv.Have.length≤1000) (h2:free.length≤1000) {Q0:Int→Prop} {Q1:Unit→Prop} (q1:(checkG hv.Have).2≠0→Q0 (checkG hv.Have).2) (q2:¬ (checkG hv.Have).2≠0→(checkG free).2≠0→Q0 (checkG free).2) (q3:¬ (checkG hv.Have).2≠0→¬ (checkG free).2≠0→Q1 ()):zdk_L0 free hv k Q0 Q1 0:=by
 have e:∀ a b:List zab,lenM (eL 2 zab.enc) [a,b]=2:=fun _ _=>rfl
 refine zdk_l0 ?_
 unfold zdk_w0
 rw [e]
 refine Br.pos (by decide) (InL.i ⟨hv.Have,EltG.i ⟨_,LCheck_r (by omega),Br.i (fun c1=>Lf.i (q1 c1)) (fun c1=>Num.n (by decide) ?_)⟩ rfl⟩ (by decide) (show (0:Nat)<2 by decide))
 refine zdk_l0 ?_
 unfold zdk_w0
 rw [e]
 refine Br.pos (by decide) (InL.i ⟨free,EltG.i ⟨_,LCheck_r (by omega),Br.i (fun c2=>Lf.i (q2 c1 c2)) (fun c2=>Num.n (by decide) ?_)⟩ rfl⟩ (by decide) (show (1:Nat)<2 by decide))
 refine zdk_l0 ?_
 unfold zdk_w0
 rw [e]
 exact Br.neg (by decide) (Lf.i (q3 c1 c2))
theorem eligH (h:Fine r) (hb:Rules c.Basket) {l:List zab} (hl:l.length≤1000):zdc_r (bk r) c.Basket l c.Day ((inM r c.Basket c.Day l).map toH,outL r c.Basket c.Day l):=by
 have:=Eligible_r h hb (day:=c.Day) hl
 rwa [show (inM r c.Basket c.Day l).map toH=isort leE (inL r c.Basket c.Day l) from toH_toR _]
theorem Renew_r (h:Fine r) (hb:Rules c.Basket) (hN:InK .i64 c.Need) (h1:c.Have.length≤1000) (h2:free.length≤1000):zcx_r (bk r) (toS c) free (renewG r c free):=by
 refine zcx_of ?_
 unfold zcx_w
 refine two_l (hv:=toS c) h1 h2 (fun c1=>Rt.i (rn1 c1)) (fun c1 c2=>Rt.i (rn2 c1 c2)) (fun c1 c2 => ?_)
 refine⟨_,eligH h hb h1,_,eligH h hb h2,_,Top_r,Br.i (fun c3=>Rt.i (rn3 c1 c2 c3)) (fun c3=>Br.i (fun c4=>Rt.i (rn4 c1 c2 c3 c4)) (fun c4 => ?_))⟩
 have tl:Lk (topG r c free).1.Lots:=top_lk c3
 have sp:=Spare_r (l:=(itsG r c (topG r c free).1.Lots).1.map toR) (need:=c.Need) hN
 rw [toH_toR] at sp
 refine⟨_,Items_r h (c:=toS c) hb (by have:=tl.len; show (topG r c free).1.Lots.length≤_; omega),Br.i (fun c5=>Rt.i (rn5 c1 c2 c3 c4 c5)) (fun c5=>⟨_,sp,Br.i (fun c6=>Rt.i (rn6 c1 c2 c3 c4 c5 c6)) (fun c6 => ?_)⟩)⟩
 have sl:Lk (spG r c free).1:=spare_lk c6
 exact⟨_,Minus_r tl (by have:=sl.len; show (spG r c free).1.length≤_; omega) (fun y hy=>(sl.pos y hy).1),Rt.i (rn7 c1 c2 c3 c4 c5 c6)⟩
theorem RRenew_r (h:Fine r) (hb:Rules c.Basket) (hN:InK .i64 c.Need) (h1:c.Have.length≤1000) (h2:free.length≤1000):zdu_r r c free (renewG r c free):=by
 refine zdu_of ?_
 unfold zdu_w
 refine⟨_,RCheck17_r (by omega),Br.i (fun c1=>Rt.i (rn1 c1)) (fun c1=>⟨_,RCheck17_r (by omega),Br.i (fun c2=>Rt.i (rn2 c1 c2)) (fun c2 => ?_)⟩)⟩
 refine⟨_,REligible_r h hb h1,_,REligible_r h hb h2,_,RTop_r (hv:=inM r c.Basket c.Day c.Have) (fr:=inM r c.Basket c.Day free),Br.i (fun c3=>Rt.i (rn3 c1 c2 c3)) (fun c3=>Br.i (fun c4=>Rt.i (rn4 c1 c2 c3 c4)) (fun c4 => ?_))⟩
 have tl:Lk (topG r c free).1.Lots:=top_lk c3
 refine⟨_,RItems_r h hb (by have:=tl.len; show (topG r c free).1.Lots.length≤_; omega),Br.i (fun c5=>Rt.i (rn5 c1 c2 c3 c4 c5)) (fun c5=>⟨_,RSpare_r (l:=(itsG r c (topG r c free).1.Lots).1.map toR) hN,Br.i (fun c6=>Rt.i (rn6 c1 c2 c3 c4 c5 c6)) (fun c6 => ?_)⟩)⟩
 have sl:Lk (spG r c free).1:=spare_lk c6
 exact⟨_,RMinus_r tl (by have:=sl.len; show (spG r c free).1.length≤_; omega) (fun y hy=>(sl.pos y hy).1),Rt.i (rn7 c1 c2 c3 c4 c5 c6)⟩
def bare (c:zbn):zbn:=⟨c.Basket,c.Need,[],c.Day⟩
def bestG (r:List KN)(c:zbn)(free:List zab):List zab×Int×Int:=
 if (checkG c.Have).2≠0 then ([],0,(checkG c.Have).2) else if (checkG free).2≠0 then ([],0,(checkG free).2) else if (plusG c.Have free).2≠0 then ([],0,(plusG c.Have free).2) else renewG r (bare c) (plusG c.Have free).1
theorem be1 (c1:(checkG c.Have).2≠0):([],0,(checkG c.Have).2)=bestG r c free:=by unfold bestG; rw [if_pos c1]
theorem be2 (c1:¬ (checkG c.Have).2≠0) (c2:(checkG free).2≠0):([],0,(checkG free).2)=bestG r c free:=by unfold bestG; rw [if_neg c1,if_pos c2]
theorem be3 (c1:¬ (checkG c.Have).2≠0) (c2:¬ (checkG free).2≠0) (c3:(plusG c.Have free).2≠0):([],0,(plusG c.Have free).2)=bestG r c free:=by unfold bestG; rw [if_neg c1,if_neg c2,if_pos c3]
theorem be4 (c1:¬ (checkG c.Have).2≠0) (c2:¬ (checkG free).2≠0) (c3:¬ (plusG c.Have free).2≠0):renewG r (bare c) (plusG c.Have free).1=bestG r c free:=by unfold bestG; rw [if_neg c1,if_neg c2,if_neg c3]
theorem Best_r (h:Fine r) (hb:Rules c.Basket) (hN:InK .i64 c.Need) (h1:c.Have.length≤1000) (h2:free.length≤1000):zdk_r (bk r) (toS c) free (bestG r c free):=by
 refine zdk_of ?_
 unfold zdk_w
 refine two_b (hv:=toS c) h1 h2 (fun c1=>Rt.i (be1 c1)) (fun c1 c2=>Rt.i (be2 c1 c2)) (fun c1 c2 => ?_)
 have k1:=check_ok (Decidable.not_not.1 c1); have k2:=check_ok (Decidable.not_not.1 c2)
 refine⟨_,Plus_r k1 (by omega) k2.pos,Br.i (fun c3=>Rt.i (be3 c1 c2 c3)) (fun c3 => ?_)⟩
 have k3:Lk (plusG c.Have free).1:=plus_ok _ _ k1 k2.pos (Decidable.not_not.1 c3)
 exact⟨_,Renew_r (c:=bare c) h hb hN (Nat.zero_le _) (by have:=k3.len; show (plusG c.Have free).1.length≤_; omega),Rt.i (be4 c1 c2 c3)⟩
theorem RBest_r (h:Fine r) (hb:Rules c.Basket) (hN:InK .i64 c.Need) (h1:c.Have.length≤1000) (h2:free.length≤1000):zey_r r c free (bestG r c free):=by
 refine zey_of ?_
 unfold zey_w
 refine⟨_,RCheck17_r (by omega),Br.i (fun c1=>Rt.i (be1 c1)) (fun c1=>⟨_,RCheck17_r (by omega),Br.i (fun c2=>Rt.i (be2 c1 c2)) (fun c2 => ?_)⟩)⟩
 have k1:=check_ok (Decidable.not_not.1 c1); have k2:=check_ok (Decidable.not_not.1 c2)
 refine⟨_,RPlus_r k1 (by omega) k2.pos,Br.i (fun c3=>Rt.i (be3 c1 c2 c3)) (fun c3 => ?_)⟩
 have k3:Lk (plusG c.Have free).1:=plus_ok _ _ k1 k2.pos (Decidable.not_not.1 c3)
 exact⟨_,RRenew_r (c:=bare c) h hb hN (Nat.zero_le _) (by have:=k3.len; show (plusG c.Have free).1.length≤_; omega),Rt.i (be4 c1 c2 c3)⟩
theorem minus_len {a b:List zab} (ha:Lk a) (hb:Ql b):(minusG a b).1.length≤1000:=by
 rcases minus_or b a with⟨q,e⟩ | e
 ·have:=(minus_ok b a ha hb (by rw [e])).len; omega
 ·rw [e]; simp
theorem renew_len:(renewG r c free).1.length≤1000:=by
 by_cases c1:(checkG c.Have).2≠0
 ·rw [← rn1 c1]; simp
 by_cases c2:(checkG free).2≠0
 ·rw [← rn2 c1 c2]; simp
 by_cases c3:(topG r c free).2≠0
 ·rw [← rn3 c1 c2 c3]; simp
 have tl:Lk (topG r c free).1.Lots:=top_lk c3
 by_cases c4:0<(topG r c free).1.Short
 ·rw [← rn4 c1 c2 c3 c4]; have:=tl.len; show (topG r c free).1.Lots.length≤_; omega
 by_cases c5:(itsG r c (topG r c free).1.Lots).2≠0
 ·rw [← rn5 c1 c2 c3 c4 c5]; simp
 by_cases c6:(spG r c free).2≠0
 ·rw [← rn6 c1 c2 c3 c4 c5 c6]; simp
 ·rw [← rn7 c1 c2 c3 c4 c5 c6]
  exact minus_len tl (spare_lk c6).pos
theorem best_len:(bestG r c free).1.length≤1000:=by
 by_cases c1:(checkG c.Have).2≠0
 ·rw [← be1 c1]; simp
 by_cases c2:(checkG free).2≠0
 ·rw [← be2 c1 c2]; simp
 by_cases c3:(plusG c.Have free).2≠0
 ·rw [← be3 c1 c2 c3]; simp
 ·rw [← be4 c1 c2 c3]; exact renew_len
end
theorem renews_r {w:zed} {c:zbn} {free:List zab} (hc:c.Basket.Cuts.length≤100000000000000000) (hN:InK .i64 c.Need):zcu_r w c free true:=by
 refine zcu_of ?_
 unfold zcu_w
 refine⟨_,good19 hc, ?_⟩
 cases g:goodS19 c free with
 |false=>exact Br.t rfl ⟨_,awake_r,Rt.i rfl⟩
 |true=>
  obtain⟨g1,g2,g3⟩:=of_decide_eq_true g
  have hb:=basket_ok g1
  obtain⟨q,hq,h1⟩:=book_r w
  have l1:=renew_len (r:=q) (c:=c) (free:=free); have l2:=best_len (r:=q) (c:=c) (free:=free)
  exact Br.f rfl ⟨_,h1,_,of_r c,_,Renew_r hq hb hN (by omega) (by omega),_,RRenew_r hq hb hN (by omega) (by omega),_,of_r c,_,Best_r hq hb hN (by omega) (by omega),_,RBest_r hq hb hN (by omega) (by omega),_,Lots_r (by omega),Br.t rfl (Br.pos rfl (Br.pos rfl ⟨_,Lots_r (by omega),Br.t rfl (Br.pos rfl (Br.pos rfl ⟨_,awake_r,Rt.i rfl⟩))⟩))⟩
end Go.Proofs.YtjlkmdmaimednaaGreat.Pure
