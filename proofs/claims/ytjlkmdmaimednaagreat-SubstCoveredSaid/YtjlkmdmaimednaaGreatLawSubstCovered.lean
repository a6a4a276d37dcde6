import Derived.Test.YtjlkmdmaimednaaGreatRows
import Derived.Test.YtjlkmdmaimednaaGreatOpenSubstCovered
import Derived.Test.YtjlkmdmaimednaaGreatPureSubstCovered
import Derived.WalkKit
import Derived.ProofKit
import Derived.OpenShut
import Derived.ShutString
import Derived.ChangeOld
import Derived.Below
import Derived.SizedLaws
import Derived.Carry
set_option linter.unusedVariables false
set_option linter.unusedSimpArgs false
namespace Go.Proofs.YtjlkmdmaimednaaGreat.substCovered
open Go.ChangeShapes Go.WideShapes Go.ChangeAt Go.RowKit Go.Ab Go.Proofs.YtjlkmdmaimednaaGreat.R
open Go.ChangeMaps (open_string shut_string)
theorem own:ownKnob Tryz.prog.godebug=none:=by kernel_rfl
theorem laidOut:laidOutB Tryz.prog=true:=by kernel_rfl
set_option maxRecDepth 100000 in
theorem lifted (os:Os) (started:os.Started) (H:Type) (enc:TypeId×Value→H):
  ReturnsInHanded {} Tryz.checked os 5 .any (Rows.substCoveredSpec.pre6 enc Tryz.prog Tryz.f5 Rows.substCoveredRow.domain false) (Rows.substCoveredSpec.post enc Tryz.prog Tryz.f5 false true false false):=by
 refine returnsInHanded_of_change_sized (C:=Tryz.checked) own started (by kernel_rfl) Tryz.func5
  (ChangeSpec.witness6 (enc:=enc) (C:=Tryz.checked) false ⟨#[], #[.agg #[.slice none 0 0,.slice none 0 0],.agg #[.int .i64 0,.int .i64 0,.string ByteArray.empty,.int .i64 0,.int .i64 0,.int .i64 0,.slice none 0 0,.int .i64 0,.int .i64 0,.slice none 0 0,.int .i64 0,.slice none 0 0,.int .i64 0],.agg #[.string ByteArray.empty,.int .i64 0],.slice none 0 0],[]⟩ 8 (by kernel_rfl) (by kernel_rfl) (by kernel_rfl) (by kernel_rfl)) ?_
 intro W base args ds gs before hval0 hW hcnd hsz0 _
 have hsz:(DataW.weightsEach Tryz.prog (Tryz.f5.params.toList++Rows.substCoveredSpec.plain.varTypes Tryz.prog) (ds++gs)).all (· ≤ reachBytes)=true:=hsz0
 have hval:∀(j:Nat) t v,Tryz.f5.params[j]? = some t→args[j]? = some v→Value.okWide Tryz.prog W .any base t v:=hval0
 have hW':=hW
 obtain⟨p,q,hA0,hV,rfl,hfz,hnd⟩:=hW
 have hA:DataW.TrodAll enc Tryz.prog W 0 (fun _=>true) true Tryz.f5.params.toList args.toList ds p:=hA0
 rw[Tryz.params5] at hA hval hsz
 obtain⟨v0,vs0,d0,ds0,p0,q0,hargs,rfl,rfl,h0,r0⟩:=trodAll_cons hA
 obtain⟨v1,vs1,d1,ds1,p1,q1,rfl,rfl,rfl,h1,r1⟩:=trodAll_cons r0
 obtain⟨v2,vs2,d2,ds2,p2,q2,rfl,rfl,rfl,h2,r2⟩:=trodAll_cons r1
 obtain⟨v3,vs3,d3,ds3,p3,q3,rfl,rfl,rfl,h3,r3⟩:=trodAll_cons r2
 obtain⟨rfl,rfl,rfl⟩:=trodAll_nil r3
 obtain rfl:args = #[v0,v1,v2,v3]:=by cases args;simp_all
 obtain⟨rfl,rfl⟩:=trodVars_none hV
 have k0:=h0
 have lt0:∀x∈p0,x.block<W.heap.size:=by obtain⟨m,hm⟩:=k0;exact DataW.trod_lt m _ _ _ hm
 have z0:∀z∈DataW.weights Tryz.prog 25 d0,z≤reachBytes:=fun z hz=>of_decide_eq_true (List.all_eq_true.1 hsz z (DataW.weights_mem_each (j:=0) (t:=25) rfl rfl z hz))
 obtain⟨cs0,rfl,_⟩:=okWide_struct Tryz.underlying25 (hval 0 25 v0 rfl rfl)
 obtain⟨fuel0,hf0⟩:=h0
 obtain⟨x0,l0,R0,B0⟩:=opens_lombardlaw19_World enc W 0 _ true fuel0 _ d0 p0 hf0 z0
 have k1:=h1
 have lt1:∀x∈p1,x.block<W.heap.size:=by obtain⟨m,hm⟩:=k1;exact DataW.trod_lt m _ _ _ hm
 have z1:∀z∈DataW.weights Tryz.prog 32 d1,z≤reachBytes:=fun z hz=>of_decide_eq_true (List.all_eq_true.1 hsz z (DataW.weights_mem_each (j:=1) (t:=32) rfl rfl z hz))
 obtain⟨cs1,rfl,_⟩:=okWide_struct Tryz.underlying32 (hval 1 32 v1 rfl rfl)
 obtain⟨fuel1,hf1⟩:=h1
 obtain⟨x1,l1,R1,B1⟩:=opens_lombardref19_Cover enc W 0 _ true fuel1 _ d1 p1 hf1 z1
 have k2:=h2
 have lt2:∀x∈p2,x.block<W.heap.size:=by obtain⟨m,hm⟩:=k2;exact DataW.trod_lt m _ _ _ hm
 have z2:∀z∈DataW.weights Tryz.prog 49 d2,z≤reachBytes:=fun z hz=>of_decide_eq_true (List.all_eq_true.1 hsz z (DataW.weights_mem_each (j:=2) (t:=49) rfl rfl z hz))
 obtain⟨cs2,rfl,_⟩:=okWide_struct Tryz.underlying49 (hval 2 49 v2 rfl rfl)
 obtain⟨fuel2,hf2⟩:=h2
 obtain⟨x2,l2,R2,B2⟩:=opens_api_Lot enc W 0 _ true fuel2 _ d2 p2 hf2 z2
 have k3:=h3
 have lt3:∀x∈p3,x.block<W.heap.size:=by obtain⟨m,hm⟩:=k3;exact DataW.trod_lt m _ _ _ hm
 have z3:∀z∈DataW.weights Tryz.prog 30 d3,z≤reachBytes:=fun z hz=>of_decide_eq_true (List.all_eq_true.1 hsz z (DataW.weights_mem_each (j:=3) (t:=30) rfl rfl z hz))
 obtain⟨va3,vn3,vc3,rfl⟩:=okWide_slice Tryz.underlying30 (hval 3 30 v3 rfl rfl)
 obtain⟨fuel3,hf3⟩:=h3
 obtain⟨x3,l3,R3,B3⟩:=(Qbl (bytes:=24) Tryz.underlying30 opens_api_Lot (by kernel_rfl:Tryz.prog.cellsOf 49=2) (by decide) (by kernel_rfl:Tryz.prog.bytesOf 49=24)) enc W 0 _ true fuel3 _ d3 p3 hf3 z3
 clear hA0 hval0 hsz0 hsz
 refine(Con.calls (u := .bool true) (r := .t (boo true)) (us:=[.agg cs0,.agg cs1,.agg cs2,.slice va3 vn3 vc3]) (Pure.SubstCovered x0 x1 x2 x3 B0 B1 B2 B3) (fun ρ C u h=>by simpa[relA,rep] using h) (W:=W) (by simp only[relAs];exact⟨_,_,rfl,arg_agg l0 R0,_,_,rfl,arg_agg l1 R1,_,_,rfl,arg_agg l2 R2,_,_,rfl,arg_one R3,rfl⟩)).mono fun e W' ⟨he,bel⟩ => ?_
 subst he
 exact⟨_,rfl,_,_,_,[],_,[],hW',trodAll_mk1 (shut_bool Tryz.underlying4 _),(trodAll_cons_mk (Below.trod laidOut (by kernel_rfl) (of_decide_eq_true (by kernel_rfl)) k0 bel lt0) (trodAll_cons_mk (Below.trod laidOut (by kernel_rfl) (of_decide_eq_true (by kernel_rfl)) k1 bel lt1) (trodAll_cons_mk (Below.trod laidOut (by kernel_rfl) (of_decide_eq_true (by kernel_rfl)) k2 bel lt2) (trodAll_cons_mk (Below.trod laidOut (by kernel_rfl) (of_decide_eq_true (by kernel_rfl)) k3 bel lt3) trodAll_mk0)))),rfl,bel.frame _,fun h=>by cases h⟩
theorem over:Rows.substCoveredRow.holds Tryz.pinned (OpenSpec.ofChange Rows.substCoveredSpec):=
 OpenClaim.holds_of_wide 5 Tryz.f5 rfl rfl rfl rfl rfl rfl rfl ⟨rfl,rfl,rfl,rfl,rfl⟩ rfl rfl rfl rfl rfl (by kernel_rfl) Tryz.func5 (by kernel_rfl)
  (of_decide_eq_true (by kernel_rfl)) (by unfold Func.isWrapper;first|(rw[if_pos (by decide +kernel)];kernel_rfl)|(rw[if_neg (by decide +kernel)];exact⟨rfl,rfl⟩))
  (fun os started H enc _=>lifted os started H enc)
theorem proved:Rows.SubstCoveredSaid:=over
#print axioms proved
end Go.Proofs.YtjlkmdmaimednaaGreat.substCovered
namespace Go.Proofs.YtjlkmdmaimednaaGreat
theorem substCovered_holds:Rows.SubstCoveredSaid:=substCovered.proved
end Go.Proofs.YtjlkmdmaimednaaGreat
