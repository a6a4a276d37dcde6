/- maps.Keys and slices.Sorted at this dump: the shelf's contracts, as ours. -/
import Derived.Test.YtjlkmdmaimednaaGreatAbY
import Derived.Shelf.SlLaysM
import Derived.Shelf.SortM.Plain
import Derived.Shelf.SortM.SortNone
import Derived.Ground.GgzProg
import Derived.Ground.SlgmProg
import Derived.Test.YtjlkmdmaimednaaGreatProg
set_option linter.unusedVariables false
set_option linter.unusedSimpArgs false
namespace Go.Proofs
open Go.Shelf
def Tryz.keys180_ren : Go.Shelf.Ren := ⟨fun | 7 => 180 | 10 => 199 | n => n, fun | 23 => 228 | 26 => 3 | 3 => 3 | 28 => 259 | 0 => 0 | 27 => 258 | 33 => 101 | 4 => 4 | n => n, fun | n => n⟩
theorem Tryz.keys180 : Go.Proofs.SlLaysZI.n7 Tryz.prog Tryz.keys180_ren := {
  mixed := by kernel_rfl
  f7 := ⟨Tryz.f180.name, by decide, Tryz.func180.trans (congrArg some (by kernel_rfl))⟩
  f10 := ⟨Tryz.f199.name, by decide, Tryz.func199.trans (congrArg some (by kernel_rfl))⟩
  t0 := Tryz.underlying0
  a0 := Tryz.isAgg0
  z0 := Tryz.sizeOf0
  v0 := Tryz.zeroValue0
  t4 := Tryz.underlying4
  a4 := Tryz.isAgg4
  z4 := Tryz.sizeOf4
  v4 := Tryz.zeroValue4
  t23 := Tryz.underlying228
  a23 := Tryz.isAgg228
  z23 := Tryz.sizeOf228
  v23 := Tryz.zeroValue228
  t26 := Tryz.underlying3
  a26 := Tryz.isAgg3
  z26 := Tryz.sizeOf3
  v26 := Tryz.zeroValue3
  t27 := Tryz.underlying258
  a27 := Tryz.isAgg258
  z27 := Tryz.sizeOf258
  v27 := Tryz.zeroValue258
  t28 := Tryz.underlying259
  a28 := Tryz.isAgg259
  z28 := Tryz.sizeOf259
  v28 := Tryz.zeroValue259
  t33 := Tryz.underlying101
  a33 := Tryz.isAgg101
  z33 := Tryz.sizeOf101
  v33 := Tryz.zeroValue101 }
def Tryz.sorted179_ren : Go.Shelf.Ren := ⟨fun | 6 => 179 | 8 => 197 | 9 => 198 | 11 => 207 | 13 => 209 | 12 => 208 | 23 => 221 | 24 => 222 | 14 => 213 | 15 => 214 | 16 => 215 | 17 => 216 | 18 => 217 | 19 => 218 | 20 => 189 | 21 => 219 | 22 => 220 | 25 => 232 | 26 => 233 | 27 => 234 | 28 => 235 | 29 => 236 | 30 => 193 | 31 => 240 | n => n, fun | 26 => 3 | 28 => 259 | 24 => 27 | 0 => 0 | 3 => 3 | 37 => 222 | 48 => 290 | 50 => 234 | 4 => 4 | 40 => 284 | 39 => 283 | 45 => 111 | 5 => 5 | 9 => 9 | 51 => 298 | 55 => 302 | 57 => 306 | 58 => 87 | 33 => 101 | n => n, fun | n => n⟩
theorem Tryz.sorted179 : Go.Proofs.SlLaysZI.n6 Tryz.prog Tryz.sorted179_ren := {
  mixed := by kernel_rfl
  f6 := ⟨Tryz.f179.name, by decide, Tryz.func179.trans (congrArg some (by kernel_rfl))⟩
  f8 := ⟨Tryz.f197.name, by decide, Tryz.func197.trans (congrArg some (by kernel_rfl))⟩
  f11 := ⟨Tryz.f207.name, by decide, Tryz.func207.trans (congrArg some (by kernel_rfl))⟩
  t0 := Tryz.underlying0
  a0 := Tryz.isAgg0
  z0 := Tryz.sizeOf0
  v0 := Tryz.zeroValue0
  t24 := Tryz.underlying27
  a24 := Tryz.isAgg27
  z24 := Tryz.sizeOf27
  v24 := Tryz.zeroValue27
  t26 := Tryz.underlying3
  a26 := Tryz.isAgg3
  z26 := Tryz.sizeOf3
  v26 := Tryz.zeroValue3
  t28 := Tryz.underlying259
  a28 := Tryz.isAgg259
  z28 := Tryz.sizeOf259
  v28 := Tryz.zeroValue259
  i26 := by kernel_rfl }
def Tryz.sort198_ren : Go.Shelf.Ren := ⟨fun | 5 => 198 | 8 => 209 | 7 => 208 | 19 => 221 | 20 => 222 | 10 => 213 | 11 => 214 | 12 => 215 | 13 => 216 | 14 => 217 | 15 => 218 | 16 => 189 | 17 => 219 | 18 => 220 | 30 => 232 | 31 => 233 | 32 => 234 | 33 => 235 | 34 => 236 | 35 => 193 | 40 => 240 | n => n, fun | 23 => 27 | 25 => 3 | 3 => 3 | 32 => 222 | 22 => 27 | 0 => 0 | 44 => 290 | 46 => 234 | 4 => 4 | 36 => 284 | 35 => 283 | 41 => 111 | 5 => 5 | 9 => 9 | 53 => 298 | 57 => 302 | 63 => 306 | 64 => 87 | n => n, fun | n => n⟩
theorem Tryz.sort198 : Go.Proofs.SlLaysM.n5 Tryz.prog Tryz.sort198_ren := {
  mixed := by kernel_rfl
  f5 := ⟨Tryz.f198.name, by decide, Tryz.func198.trans (congrArg some (by kernel_rfl))⟩
  f7 := ⟨Tryz.f208.name, by decide, Tryz.func208.trans (congrArg some (by kernel_rfl))⟩
  f8 := Tryz.func209.trans (congrArg some (by kernel_rfl))
  f10 := ⟨Tryz.f213.name, by decide, Tryz.func213.trans (congrArg some (by kernel_rfl))⟩
  f11 := ⟨Tryz.f214.name, by decide, Tryz.func214.trans (congrArg some (by kernel_rfl))⟩
  f12 := ⟨Tryz.f215.name, by decide, Tryz.func215.trans (congrArg some (by kernel_rfl))⟩
  f13 := ⟨Tryz.f216.name, by decide, Tryz.func216.trans (congrArg some (by kernel_rfl))⟩
  f14 := ⟨Tryz.f217.name, by decide, Tryz.func217.trans (congrArg some (by kernel_rfl))⟩
  f15 := ⟨Tryz.f218.name, by decide, Tryz.func218.trans (congrArg some (by kernel_rfl))⟩
  f16 := ⟨Tryz.f189.name, by decide, Tryz.func189.trans (congrArg some (by kernel_rfl))⟩
  f17 := ⟨Tryz.f219.name, by decide, Tryz.func219.trans (congrArg some (by kernel_rfl))⟩
  f18 := ⟨Tryz.f220.name, by decide, Tryz.func220.trans (congrArg some (by kernel_rfl))⟩
  f19 := Tryz.func221.trans (congrArg some (by kernel_rfl))
  f20 := Tryz.func222.trans (congrArg some (by kernel_rfl))
  f30 := ⟨Tryz.f232.name, by decide, Tryz.func232.trans (congrArg some (by kernel_rfl))⟩
  f31 := Tryz.func233.trans (congrArg some (by kernel_rfl))
  f32 := Tryz.func234.trans (congrArg some (by kernel_rfl))
  f33 := ⟨Tryz.f235.name, by decide, Tryz.func235.trans (congrArg some (by kernel_rfl))⟩
  f34 := ⟨Tryz.f236.name, by decide, Tryz.func236.trans (congrArg some (by kernel_rfl))⟩
  f35 := ⟨Tryz.f193.name, by decide, Tryz.func193.trans (congrArg some (by kernel_rfl))⟩
  f40 := ⟨Tryz.f240.name, by decide, Tryz.func240.trans (congrArg some (by kernel_rfl))⟩
  t0 := Tryz.underlying0
  a0 := Tryz.isAgg0
  z0 := Tryz.sizeOf0
  v0 := Tryz.zeroValue0
  t3 := Tryz.underlying3
  a3 := Tryz.isAgg3
  z3 := Tryz.sizeOf3
  v3 := Tryz.zeroValue3
  t4 := Tryz.underlying4
  a4 := Tryz.isAgg4
  z4 := Tryz.sizeOf4
  v4 := Tryz.zeroValue4
  t5 := Tryz.underlying5
  a5 := Tryz.isAgg5
  z5 := Tryz.sizeOf5
  v5 := Tryz.zeroValue5
  t9 := Tryz.underlying9
  a9 := Tryz.isAgg9
  z9 := Tryz.sizeOf9
  v9 := Tryz.zeroValue9
  t22 := Tryz.underlying27
  a22 := Tryz.isAgg27
  z22 := Tryz.sizeOf27
  v22 := Tryz.zeroValue27
  t23 := Tryz.underlying27
  a23 := Tryz.isAgg27
  z23 := Tryz.sizeOf27
  v23 := Tryz.zeroValue27
  t25 := Tryz.underlying3
  a25 := Tryz.isAgg3
  z25 := Tryz.sizeOf3
  v25 := Tryz.zeroValue3
  t32 := Tryz.underlying222
  a32 := Tryz.isAgg222
  z32 := Tryz.sizeOf222
  v32 := Tryz.zeroValue222
  t35 := Tryz.underlying283
  a35 := Tryz.isAgg283
  z35 := Tryz.sizeOf283
  v35 := Tryz.zeroValue283
  t36 := Tryz.underlying284
  a36 := Tryz.isAgg284
  z36 := Tryz.sizeOf284
  v36 := Tryz.zeroValue284
  t41 := Tryz.underlying111
  a41 := Tryz.isAgg111
  z41 := Tryz.sizeOf111
  v41 := Tryz.zeroValue111
  t44 := Tryz.underlying290
  a44 := Tryz.isAgg290
  z44 := Tryz.sizeOf290
  v44 := Tryz.zeroValue290
  t46 := Tryz.underlying234
  a46 := Tryz.isAgg234
  z46 := Tryz.sizeOf234
  v46 := Tryz.zeroValue234
  t53 := Tryz.underlying298
  a53 := Tryz.isAgg298
  z53 := Tryz.sizeOf298
  v53 := Tryz.zeroValue298
  t57 := Tryz.underlying302
  a57 := Tryz.isAgg302
  z57 := Tryz.sizeOf302
  v57 := Tryz.zeroValue302
  t63 := Tryz.underlying306
  a63 := Tryz.isAgg306
  z63 := Tryz.sizeOf306
  v63 := Tryz.zeroValue306
  t64 := Tryz.underlying87
  a64 := Tryz.isAgg87
  z64 := Tryz.sizeOf87
  v64 := Tryz.zeroValue87 }
def Tryz.keys182_ren : Go.Shelf.Ren := ⟨fun | 7 => 182 | 10 => 202 | n => n, fun | 23 => 229 | 26 => 9 | 3 => 3 | 28 => 264 | 0 => 0 | 27 => 263 | 33 => 105 | 4 => 4 | n => n, fun | n => n⟩
theorem Tryz.keys182 : Go.Proofs.SlLaysZ.n7 Tryz.prog Tryz.keys182_ren := {
  mixed := by kernel_rfl
  f7 := ⟨Tryz.f182.name, by decide, Tryz.func182.trans (congrArg some (by kernel_rfl))⟩
  f10 := ⟨Tryz.f202.name, by decide, Tryz.func202.trans (congrArg some (by kernel_rfl))⟩
  t0 := Tryz.underlying0
  a0 := Tryz.isAgg0
  z0 := Tryz.sizeOf0
  v0 := Tryz.zeroValue0
  t4 := Tryz.underlying4
  a4 := Tryz.isAgg4
  z4 := Tryz.sizeOf4
  v4 := Tryz.zeroValue4
  t23 := Tryz.underlying229
  a23 := Tryz.isAgg229
  z23 := Tryz.sizeOf229
  v23 := Tryz.zeroValue229
  t26 := Tryz.underlying9
  a26 := Tryz.isAgg9
  z26 := Tryz.sizeOf9
  v26 := Tryz.zeroValue9
  t27 := Tryz.underlying263
  a27 := Tryz.isAgg263
  z27 := Tryz.sizeOf263
  v27 := Tryz.zeroValue263
  t28 := Tryz.underlying264
  a28 := Tryz.isAgg264
  z28 := Tryz.sizeOf264
  v28 := Tryz.zeroValue264
  t33 := Tryz.underlying105
  a33 := Tryz.isAgg105
  z33 := Tryz.sizeOf105
  v33 := Tryz.zeroValue105 }
def Tryz.sorted181_ren : Go.Shelf.Ren := ⟨fun | 6 => 181 | 8 => 200 | 9 => 201 | 11 => 210 | 13 => 209 | 12 => 211 | 23 => 221 | 24 => 222 | 14 => 223 | 15 => 224 | 16 => 225 | 17 => 226 | 18 => 227 | 19 => 228 | 20 => 229 | 21 => 230 | 22 => 231 | 25 => 237 | 26 => 233 | 27 => 234 | 28 => 238 | 29 => 239 | 30 => 149 | 31 => 241 | n => n, fun | 26 => 9 | 28 => 264 | 24 => 261 | 0 => 0 | 3 => 3 | 37 => 222 | 48 => 290 | 50 => 234 | 4 => 4 | 40 => 284 | 39 => 283 | 45 => 111 | 5 => 5 | 9 => 9 | 51 => 298 | 55 => 302 | 57 => 306 | 58 => 87 | 33 => 105 | n => n, fun | n => n⟩
theorem Tryz.sorted181 : Go.Proofs.SlLaysZ.n6 Tryz.prog Tryz.sorted181_ren := {
  mixed := by kernel_rfl
  f6 := ⟨Tryz.f181.name, by decide, Tryz.func181.trans (congrArg some (by kernel_rfl))⟩
  f8 := ⟨Tryz.f200.name, by decide, Tryz.func200.trans (congrArg some (by kernel_rfl))⟩
  f11 := ⟨Tryz.f210.name, by decide, Tryz.func210.trans (congrArg some (by kernel_rfl))⟩
  t0 := Tryz.underlying0
  a0 := Tryz.isAgg0
  z0 := Tryz.sizeOf0
  v0 := Tryz.zeroValue0
  t24 := Tryz.underlying261
  a24 := Tryz.isAgg261
  z24 := Tryz.sizeOf261
  v24 := Tryz.zeroValue261
  t26 := Tryz.underlying9
  a26 := Tryz.isAgg9
  z26 := Tryz.sizeOf9
  v26 := Tryz.zeroValue9
  t28 := Tryz.underlying264
  a28 := Tryz.isAgg264
  z28 := Tryz.sizeOf264
  v28 := Tryz.zeroValue264
  i26 := by kernel_rfl }
def Tryz.sort201_ren : Go.Shelf.Ren := ⟨fun | 6 => 201 | 8 => 209 | 9 => 211 | 19 => 221 | 20 => 222 | 21 => 223 | 22 => 224 | 23 => 225 | 24 => 226 | 25 => 227 | 26 => 228 | 27 => 229 | 28 => 230 | 29 => 231 | 36 => 237 | 31 => 233 | 32 => 234 | 37 => 238 | 38 => 239 | 39 => 149 | 41 => 241 | n => n, fun | 27 => 261 | 29 => 9 | 3 => 3 | 32 => 222 | 26 => 261 | 0 => 0 | 44 => 290 | 46 => 234 | 4 => 4 | 36 => 284 | 35 => 283 | 41 => 111 | 5 => 5 | 9 => 9 | 53 => 298 | 57 => 302 | 63 => 306 | 64 => 87 | n => n, fun | n => n⟩
theorem Tryz.sort201 : Go.Proofs.SlLaysM.n6 Tryz.prog Tryz.sort201_ren := {
  mixed := by kernel_rfl
  f6 := ⟨Tryz.f201.name, by decide, Tryz.func201.trans (congrArg some (by kernel_rfl))⟩
  f8 := Tryz.func209.trans (congrArg some (by kernel_rfl))
  f9 := ⟨Tryz.f211.name, by decide, Tryz.func211.trans (congrArg some (by kernel_rfl))⟩
  f19 := Tryz.func221.trans (congrArg some (by kernel_rfl))
  f20 := Tryz.func222.trans (congrArg some (by kernel_rfl))
  f21 := ⟨Tryz.f223.name, by decide, Tryz.func223.trans (congrArg some (by kernel_rfl))⟩
  f22 := ⟨Tryz.f224.name, by decide, Tryz.func224.trans (congrArg some (by kernel_rfl))⟩
  f23 := ⟨Tryz.f225.name, by decide, Tryz.func225.trans (congrArg some (by kernel_rfl))⟩
  f24 := ⟨Tryz.f226.name, by decide, Tryz.func226.trans (congrArg some (by kernel_rfl))⟩
  f25 := ⟨Tryz.f227.name, by decide, Tryz.func227.trans (congrArg some (by kernel_rfl))⟩
  f26 := ⟨Tryz.f228.name, by decide, Tryz.func228.trans (congrArg some (by kernel_rfl))⟩
  f27 := ⟨Tryz.f229.name, by decide, Tryz.func229.trans (congrArg some (by kernel_rfl))⟩
  f28 := ⟨Tryz.f230.name, by decide, Tryz.func230.trans (congrArg some (by kernel_rfl))⟩
  f29 := ⟨Tryz.f231.name, by decide, Tryz.func231.trans (congrArg some (by kernel_rfl))⟩
  f31 := Tryz.func233.trans (congrArg some (by kernel_rfl))
  f32 := Tryz.func234.trans (congrArg some (by kernel_rfl))
  f36 := ⟨Tryz.f237.name, by decide, Tryz.func237.trans (congrArg some (by kernel_rfl))⟩
  f37 := ⟨Tryz.f238.name, by decide, Tryz.func238.trans (congrArg some (by kernel_rfl))⟩
  f38 := ⟨Tryz.f239.name, by decide, Tryz.func239.trans (congrArg some (by kernel_rfl))⟩
  f39 := ⟨Tryz.f149.name, by decide, Tryz.func149.trans (congrArg some (by kernel_rfl))⟩
  f41 := ⟨Tryz.f241.name, by decide, Tryz.func241.trans (congrArg some (by kernel_rfl))⟩
  t0 := Tryz.underlying0
  a0 := Tryz.isAgg0
  z0 := Tryz.sizeOf0
  v0 := Tryz.zeroValue0
  t3 := Tryz.underlying3
  a3 := Tryz.isAgg3
  z3 := Tryz.sizeOf3
  v3 := Tryz.zeroValue3
  t4 := Tryz.underlying4
  a4 := Tryz.isAgg4
  z4 := Tryz.sizeOf4
  v4 := Tryz.zeroValue4
  t5 := Tryz.underlying5
  a5 := Tryz.isAgg5
  z5 := Tryz.sizeOf5
  v5 := Tryz.zeroValue5
  t9 := Tryz.underlying9
  a9 := Tryz.isAgg9
  z9 := Tryz.sizeOf9
  v9 := Tryz.zeroValue9
  t26 := Tryz.underlying261
  a26 := Tryz.isAgg261
  z26 := Tryz.sizeOf261
  v26 := Tryz.zeroValue261
  t27 := Tryz.underlying261
  a27 := Tryz.isAgg261
  z27 := Tryz.sizeOf261
  v27 := Tryz.zeroValue261
  t29 := Tryz.underlying9
  a29 := Tryz.isAgg9
  z29 := Tryz.sizeOf9
  v29 := Tryz.zeroValue9
  t32 := Tryz.underlying222
  a32 := Tryz.isAgg222
  z32 := Tryz.sizeOf222
  v32 := Tryz.zeroValue222
  t35 := Tryz.underlying283
  a35 := Tryz.isAgg283
  z35 := Tryz.sizeOf283
  v35 := Tryz.zeroValue283
  t36 := Tryz.underlying284
  a36 := Tryz.isAgg284
  z36 := Tryz.sizeOf284
  v36 := Tryz.zeroValue284
  t41 := Tryz.underlying111
  a41 := Tryz.isAgg111
  z41 := Tryz.sizeOf111
  v41 := Tryz.zeroValue111
  t44 := Tryz.underlying290
  a44 := Tryz.isAgg290
  z44 := Tryz.sizeOf290
  v44 := Tryz.zeroValue290
  t46 := Tryz.underlying234
  a46 := Tryz.isAgg234
  z46 := Tryz.sizeOf234
  v46 := Tryz.zeroValue234
  t53 := Tryz.underlying298
  a53 := Tryz.isAgg298
  z53 := Tryz.sizeOf298
  v53 := Tryz.zeroValue298
  t57 := Tryz.underlying302
  a57 := Tryz.isAgg302
  z57 := Tryz.sizeOf302
  v57 := Tryz.zeroValue302
  t63 := Tryz.underlying306
  a63 := Tryz.isAgg306
  z63 := Tryz.sizeOf306
  v63 := Tryz.zeroValue306
  t64 := Tryz.underlying87
  a64 := Tryz.isAgg87
  z64 := Tryz.sizeOf87
  v64 := Tryz.zeroValue87 }
end Go.Proofs
namespace Go.Proofs.YtjlkmdmaimednaaGreat.R
open Go Go.Ab Go.Proofs Go.RowKit Go.Maps Go.Sort Go.Shelf
set_option linter.unusedVariables false
def keys180_r (j : Nat) (m : GM Int Int) : Prop := Con Tryz.prog 180 [.ref j] [(j, .map false m.clock (m.ents (kI .i64) eN))] (fun r o => r = .fn 199 [.at 660 0] ∧ o = [(660, .box [.ref j]), (j, .map false m.clock (m.ents (kI .i64) eN))])
def sorted179_r (j : Nat) (m : GM Int Int) (l : List Int) : Prop := Con Tryz.prog 179 [.fn 199 [.at 660 0]] [(660, .box [.ref j]), (j, .map false m.clock (m.ents (kI .i64) eN))] (fun r o => r = .t (.sl 1 (l.map eN)) ∧ o = [(660, .box [.ref j]), (j, .map false m.clock (m.ents (kI .i64) eN))])
theorem keys180_ok {j : Nat} (m : GM Int Int) (hij : 660 ≠ j) (hl : loose j = false) : keys180_r j m := Con_mkKeys (et := Tryz.keys180_ren.t 23) hij hl (enters_of Tryz.func180 (by kernel_rfl) rfl) fun mb w => (callsIn_wide (n := 5)).1 (AnyZI.keys_in Tryz.keys180 Fence.wide 5 trivial rfl mb w)
theorem sorts179 (n : Nat) : AnyZI.SortsIn Tryz.prog Tryz.sorted179_ren Fence.wide n := ⟨fun blk off cap ss W hH hblk hsz => callsIn_wide.2 (AnyM.slices_Sort_int Tryz.sort198 blk off cap ss W hH hblk hsz), fun p cap W => callsIn_wide.2 (AnyM.slices_Sort_int_none Tryz.sort198 p cap W)⟩
theorem sorted179_ok {j : Nat} {m : GM Int Int} (hij : 660 ≠ j) (hm : m.ok (InK .i64)) : sorted179_r j m (sortI m.keys) := Con_keysI (ρ6 := Tryz.sorted179_ren) (ρ10 := Tryz.keys180_ren) hij Tryz.sorted179 { Tryz.keys180 with } Tryz.keys180.t26 (sorts179) (enters_of Tryz.func198 (by kernel_rfl) rfl) (enters_of Tryz.func199 (by kernel_rfl) rfl) (enters_of Tryz.func179 (by kernel_rfl) rfl) hm
def keys182_r (j : Nat) (m : GM ByteArray Int) : Prop := Con Tryz.prog 182 [.ref j] [(j, .map false m.clock (m.ents kS eN))] (fun r o => r = .fn 202 [.at 664 0] ∧ o = [(664, .box [.ref j]), (j, .map false m.clock (m.ents kS eN))])
def sorted181_r (j : Nat) (m : GM ByteArray Int) (l : List ByteArray) : Prop := Con Tryz.prog 181 [.fn 202 [.at 664 0]] [(664, .box [.ref j]), (j, .map false m.clock (m.ents kS eN))] (fun r o => r = .t (.sl 1 (l.map eS)) ∧ o = [(664, .box [.ref j]), (j, .map false m.clock (m.ents kS eN))])
theorem keys182_ok {j : Nat} (m : GM ByteArray Int) (hij : 664 ≠ j) (hl : loose j = false) : keys182_r j m := Con_mkKeys (et := Tryz.keys182_ren.t 23) hij hl (enters_of Tryz.func182 (by kernel_rfl) rfl) fun mb w => (callsIn_wide (n := 5)).1 (AnyZ.keys_in Tryz.keys182 Fence.wide 5 trivial rfl mb w)
theorem sorts181 (n : Nat) : AnyZ.SortsIn Tryz.prog Tryz.sorted181_ren Fence.wide n := ⟨fun blk off cap ss W hH hblk hsz => callsIn_wide.2 (AnyM.slices_Sort_string Tryz.sort201 blk off cap ss W hH hblk hsz), fun p cap W => callsIn_wide.2 (AnyM.slices_Sort_string_none Tryz.sort201 p cap W)⟩
theorem sorted181_ok {j : Nat} {m : GM ByteArray Int} (hij : 664 ≠ j) (hm : m.ok (fun b : ByteArray => b.size ≤ maxLen)) : sorted181_r j m (sortS m.keys) := Con_keysS (ρ6 := Tryz.sorted181_ren) (ρ10 := Tryz.keys182_ren) hij Tryz.sorted181 { Tryz.keys182 with } Tryz.keys182.t26 (sorts181) (enters_of Tryz.func201 (by kernel_rfl) rfl) (enters_of Tryz.func202 (by kernel_rfl) rfl) (enters_of Tryz.func181 (by kernel_rfl) rfl) hm
end Go.Proofs.YtjlkmdmaimednaaGreat.R
