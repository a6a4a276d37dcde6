/- maps.Keys and slices.Sorted at this dump: the shelf's contracts, as ours. -/
import Derived.Test.YtgncepjnbdhmkaaGreatAbY
import Derived.Shelf.SlLaysM
import Derived.Shelf.SortM.Plain
import Derived.Shelf.SortM.SortNone
import Derived.Ground.GgzProg
import Derived.Ground.SlgmProg
import Derived.Test.YtgncepjnbdhmkaaGreatProg
set_option linter.unusedVariables false
set_option linter.unusedSimpArgs false
namespace Go.Proofs
open Go.Shelf
def Tryz.keys110_ren : Go.Shelf.Ren := ⟨fun | 7 => 110 | 10 => 126 | n => n, fun | 23 => 136 | 26 => 3 | 3 => 3 | 28 => 174 | 0 => 0 | 27 => 173 | 33 => 126 | 4 => 4 | n => n, fun | n => n⟩
theorem Tryz.keys110 : Go.Proofs.SlLaysZI.n7 Tryz.prog Tryz.keys110_ren := {
  mixed := by kernel_rfl
  f7 := ⟨Tryz.f110.name, by decide, Tryz.func110.trans (congrArg some (by kernel_rfl))⟩
  f10 := ⟨Tryz.f126.name, by decide, Tryz.func126.trans (congrArg some (by kernel_rfl))⟩
  t0 := Tryz.underlying0
  a0 := Tryz.isAgg0
  z0 := Tryz.sizeOf0
  v0 := Tryz.zeroValue0
  t4 := Tryz.underlying4
  a4 := Tryz.isAgg4
  z4 := Tryz.sizeOf4
  v4 := Tryz.zeroValue4
  t23 := Tryz.underlying136
  a23 := Tryz.isAgg136
  z23 := Tryz.sizeOf136
  v23 := Tryz.zeroValue136
  t26 := Tryz.underlying3
  a26 := Tryz.isAgg3
  z26 := Tryz.sizeOf3
  v26 := Tryz.zeroValue3
  t27 := Tryz.underlying173
  a27 := Tryz.isAgg173
  z27 := Tryz.sizeOf173
  v27 := Tryz.zeroValue173
  t28 := Tryz.underlying174
  a28 := Tryz.isAgg174
  z28 := Tryz.sizeOf174
  v28 := Tryz.zeroValue174
  t33 := Tryz.underlying126
  a33 := Tryz.isAgg126
  z33 := Tryz.sizeOf126
  v33 := Tryz.zeroValue126 }
def Tryz.sorted109_ren : Go.Shelf.Ren := ⟨fun | 6 => 109 | 8 => 124 | 9 => 125 | 11 => 132 | 13 => 134 | 12 => 133 | 23 => 148 | 24 => 149 | 14 => 139 | 15 => 140 | 16 => 141 | 17 => 142 | 18 => 143 | 19 => 144 | 20 => 145 | 21 => 146 | 22 => 147 | 25 => 159 | 26 => 160 | 27 => 161 | 28 => 162 | 29 => 163 | 30 => 118 | 31 => 167 | n => n, fun | 26 => 3 | 28 => 174 | 24 => 23 | 0 => 0 | 3 => 3 | 37 => 185 | 48 => 205 | 50 => 147 | 4 => 4 | 40 => 199 | 39 => 198 | 45 => 83 | 5 => 5 | 9 => 9 | 51 => 213 | 55 => 217 | 57 => 221 | 58 => 87 | 33 => 126 | n => n, fun | n => n⟩
theorem Tryz.sorted109 : Go.Proofs.SlLaysZI.n6 Tryz.prog Tryz.sorted109_ren := {
  mixed := by kernel_rfl
  f6 := ⟨Tryz.f109.name, by decide, Tryz.func109.trans (congrArg some (by kernel_rfl))⟩
  f8 := ⟨Tryz.f124.name, by decide, Tryz.func124.trans (congrArg some (by kernel_rfl))⟩
  f11 := ⟨Tryz.f132.name, by decide, Tryz.func132.trans (congrArg some (by kernel_rfl))⟩
  t0 := Tryz.underlying0
  a0 := Tryz.isAgg0
  z0 := Tryz.sizeOf0
  v0 := Tryz.zeroValue0
  t24 := Tryz.underlying23
  a24 := Tryz.isAgg23
  z24 := Tryz.sizeOf23
  v24 := Tryz.zeroValue23
  t26 := Tryz.underlying3
  a26 := Tryz.isAgg3
  z26 := Tryz.sizeOf3
  v26 := Tryz.zeroValue3
  t28 := Tryz.underlying174
  a28 := Tryz.isAgg174
  z28 := Tryz.sizeOf174
  v28 := Tryz.zeroValue174
  i26 := by kernel_rfl }
def Tryz.sort125_ren : Go.Shelf.Ren := ⟨fun | 5 => 125 | 8 => 134 | 7 => 133 | 19 => 148 | 20 => 149 | 10 => 139 | 11 => 140 | 12 => 141 | 13 => 142 | 14 => 143 | 15 => 144 | 16 => 145 | 17 => 146 | 18 => 147 | 30 => 159 | 31 => 160 | 32 => 161 | 33 => 162 | 34 => 163 | 35 => 118 | 40 => 167 | n => n, fun | 23 => 23 | 25 => 3 | 3 => 3 | 32 => 185 | 22 => 23 | 0 => 0 | 44 => 205 | 46 => 147 | 4 => 4 | 36 => 199 | 35 => 198 | 41 => 83 | 5 => 5 | 9 => 9 | 53 => 213 | 57 => 217 | 63 => 221 | 64 => 87 | n => n, fun | n => n⟩
theorem Tryz.sort125 : Go.Proofs.SlLaysM.n5 Tryz.prog Tryz.sort125_ren := {
  mixed := by kernel_rfl
  f5 := ⟨Tryz.f125.name, by decide, Tryz.func125.trans (congrArg some (by kernel_rfl))⟩
  f7 := ⟨Tryz.f133.name, by decide, Tryz.func133.trans (congrArg some (by kernel_rfl))⟩
  f8 := Tryz.func134.trans (congrArg some (by kernel_rfl))
  f10 := ⟨Tryz.f139.name, by decide, Tryz.func139.trans (congrArg some (by kernel_rfl))⟩
  f11 := ⟨Tryz.f140.name, by decide, Tryz.func140.trans (congrArg some (by kernel_rfl))⟩
  f12 := ⟨Tryz.f141.name, by decide, Tryz.func141.trans (congrArg some (by kernel_rfl))⟩
  f13 := ⟨Tryz.f142.name, by decide, Tryz.func142.trans (congrArg some (by kernel_rfl))⟩
  f14 := ⟨Tryz.f143.name, by decide, Tryz.func143.trans (congrArg some (by kernel_rfl))⟩
  f15 := ⟨Tryz.f144.name, by decide, Tryz.func144.trans (congrArg some (by kernel_rfl))⟩
  f16 := ⟨Tryz.f145.name, by decide, Tryz.func145.trans (congrArg some (by kernel_rfl))⟩
  f17 := ⟨Tryz.f146.name, by decide, Tryz.func146.trans (congrArg some (by kernel_rfl))⟩
  f18 := ⟨Tryz.f147.name, by decide, Tryz.func147.trans (congrArg some (by kernel_rfl))⟩
  f19 := Tryz.func148.trans (congrArg some (by kernel_rfl))
  f20 := Tryz.func149.trans (congrArg some (by kernel_rfl))
  f30 := ⟨Tryz.f159.name, by decide, Tryz.func159.trans (congrArg some (by kernel_rfl))⟩
  f31 := Tryz.func160.trans (congrArg some (by kernel_rfl))
  f32 := Tryz.func161.trans (congrArg some (by kernel_rfl))
  f33 := ⟨Tryz.f162.name, by decide, Tryz.func162.trans (congrArg some (by kernel_rfl))⟩
  f34 := ⟨Tryz.f163.name, by decide, Tryz.func163.trans (congrArg some (by kernel_rfl))⟩
  f35 := ⟨Tryz.f118.name, by decide, Tryz.func118.trans (congrArg some (by kernel_rfl))⟩
  f40 := ⟨Tryz.f167.name, by decide, Tryz.func167.trans (congrArg some (by kernel_rfl))⟩
  t0 := Tryz.underlying0
  a0 := Tryz.isAgg0
  z0 := Tryz.sizeOf0
  v0 := Tryz.zeroValue0
  t3 := Tryz.underlying3
  a3 := Tryz.isAgg3
  z3 := Tryz.sizeOf3
  v3 := Tryz.zeroValue3
  t4 := Tryz.underlying4
  a4 := Tryz.isAgg4
  z4 := Tryz.sizeOf4
  v4 := Tryz.zeroValue4
  t5 := Tryz.underlying5
  a5 := Tryz.isAgg5
  z5 := Tryz.sizeOf5
  v5 := Tryz.zeroValue5
  t9 := Tryz.underlying9
  a9 := Tryz.isAgg9
  z9 := Tryz.sizeOf9
  v9 := Tryz.zeroValue9
  t22 := Tryz.underlying23
  a22 := Tryz.isAgg23
  z22 := Tryz.sizeOf23
  v22 := Tryz.zeroValue23
  t23 := Tryz.underlying23
  a23 := Tryz.isAgg23
  z23 := Tryz.sizeOf23
  v23 := Tryz.zeroValue23
  t25 := Tryz.underlying3
  a25 := Tryz.isAgg3
  z25 := Tryz.sizeOf3
  v25 := Tryz.zeroValue3
  t32 := Tryz.underlying185
  a32 := Tryz.isAgg185
  z32 := Tryz.sizeOf185
  v32 := Tryz.zeroValue185
  t35 := Tryz.underlying198
  a35 := Tryz.isAgg198
  z35 := Tryz.sizeOf198
  v35 := Tryz.zeroValue198
  t36 := Tryz.underlying199
  a36 := Tryz.isAgg199
  z36 := Tryz.sizeOf199
  v36 := Tryz.zeroValue199
  t41 := Tryz.underlying83
  a41 := Tryz.isAgg83
  z41 := Tryz.sizeOf83
  v41 := Tryz.zeroValue83
  t44 := Tryz.underlying205
  a44 := Tryz.isAgg205
  z44 := Tryz.sizeOf205
  v44 := Tryz.zeroValue205
  t46 := Tryz.underlying147
  a46 := Tryz.isAgg147
  z46 := Tryz.sizeOf147
  v46 := Tryz.zeroValue147
  t53 := Tryz.underlying213
  a53 := Tryz.isAgg213
  z53 := Tryz.sizeOf213
  v53 := Tryz.zeroValue213
  t57 := Tryz.underlying217
  a57 := Tryz.isAgg217
  z57 := Tryz.sizeOf217
  v57 := Tryz.zeroValue217
  t63 := Tryz.underlying221
  a63 := Tryz.isAgg221
  z63 := Tryz.sizeOf221
  v63 := Tryz.zeroValue221
  t64 := Tryz.underlying87
  a64 := Tryz.isAgg87
  z64 := Tryz.sizeOf87
  v64 := Tryz.zeroValue87 }
def Tryz.keys112_ren : Go.Shelf.Ren := ⟨fun | 7 => 112 | 10 => 129 | n => n, fun | 23 => 137 | 26 => 9 | 3 => 3 | 28 => 179 | 0 => 0 | 27 => 178 | 33 => 184 | 4 => 4 | n => n, fun | n => n⟩
theorem Tryz.keys112 : Go.Proofs.SlLaysZ.n7 Tryz.prog Tryz.keys112_ren := {
  mixed := by kernel_rfl
  f7 := ⟨Tryz.f112.name, by decide, Tryz.func112.trans (congrArg some (by kernel_rfl))⟩
  f10 := ⟨Tryz.f129.name, by decide, Tryz.func129.trans (congrArg some (by kernel_rfl))⟩
  t0 := Tryz.underlying0
  a0 := Tryz.isAgg0
  z0 := Tryz.sizeOf0
  v0 := Tryz.zeroValue0
  t4 := Tryz.underlying4
  a4 := Tryz.isAgg4
  z4 := Tryz.sizeOf4
  v4 := Tryz.zeroValue4
  t23 := Tryz.underlying137
  a23 := Tryz.isAgg137
  z23 := Tryz.sizeOf137
  v23 := Tryz.zeroValue137
  t26 := Tryz.underlying9
  a26 := Tryz.isAgg9
  z26 := Tryz.sizeOf9
  v26 := Tryz.zeroValue9
  t27 := Tryz.underlying178
  a27 := Tryz.isAgg178
  z27 := Tryz.sizeOf178
  v27 := Tryz.zeroValue178
  t28 := Tryz.underlying179
  a28 := Tryz.isAgg179
  z28 := Tryz.sizeOf179
  v28 := Tryz.zeroValue179
  t33 := Tryz.underlying184
  a33 := Tryz.isAgg184
  z33 := Tryz.sizeOf184
  v33 := Tryz.zeroValue184 }
def Tryz.sorted111_ren : Go.Shelf.Ren := ⟨fun | 6 => 111 | 8 => 127 | 9 => 128 | 11 => 135 | 13 => 134 | 12 => 136 | 23 => 148 | 24 => 149 | 14 => 150 | 15 => 151 | 16 => 152 | 17 => 153 | 18 => 154 | 19 => 155 | 20 => 156 | 21 => 157 | 22 => 158 | 25 => 164 | 26 => 160 | 27 => 161 | 28 => 165 | 29 => 166 | 30 => 119 | 31 => 168 | n => n, fun | 26 => 9 | 28 => 179 | 24 => 176 | 0 => 0 | 3 => 3 | 37 => 185 | 48 => 205 | 50 => 147 | 4 => 4 | 40 => 199 | 39 => 198 | 45 => 83 | 5 => 5 | 9 => 9 | 51 => 213 | 55 => 217 | 57 => 221 | 58 => 87 | 33 => 184 | n => n, fun | n => n⟩
theorem Tryz.sorted111 : Go.Proofs.SlLaysZ.n6 Tryz.prog Tryz.sorted111_ren := {
  mixed := by kernel_rfl
  f6 := ⟨Tryz.f111.name, by decide, Tryz.func111.trans (congrArg some (by kernel_rfl))⟩
  f8 := ⟨Tryz.f127.name, by decide, Tryz.func127.trans (congrArg some (by kernel_rfl))⟩
  f11 := ⟨Tryz.f135.name, by decide, Tryz.func135.trans (congrArg some (by kernel_rfl))⟩
  t0 := Tryz.underlying0
  a0 := Tryz.isAgg0
  z0 := Tryz.sizeOf0
  v0 := Tryz.zeroValue0
  t24 := Tryz.underlying176
  a24 := Tryz.isAgg176
  z24 := Tryz.sizeOf176
  v24 := Tryz.zeroValue176
  t26 := Tryz.underlying9
  a26 := Tryz.isAgg9
  z26 := Tryz.sizeOf9
  v26 := Tryz.zeroValue9
  t28 := Tryz.underlying179
  a28 := Tryz.isAgg179
  z28 := Tryz.sizeOf179
  v28 := Tryz.zeroValue179
  i26 := by kernel_rfl }
def Tryz.sort128_ren : Go.Shelf.Ren := ⟨fun | 6 => 128 | 8 => 134 | 9 => 136 | 19 => 148 | 20 => 149 | 21 => 150 | 22 => 151 | 23 => 152 | 24 => 153 | 25 => 154 | 26 => 155 | 27 => 156 | 28 => 157 | 29 => 158 | 36 => 164 | 31 => 160 | 32 => 161 | 37 => 165 | 38 => 166 | 39 => 119 | 41 => 168 | n => n, fun | 27 => 176 | 29 => 9 | 3 => 3 | 32 => 185 | 26 => 176 | 0 => 0 | 44 => 205 | 46 => 147 | 4 => 4 | 36 => 199 | 35 => 198 | 41 => 83 | 5 => 5 | 9 => 9 | 53 => 213 | 57 => 217 | 63 => 221 | 64 => 87 | n => n, fun | n => n⟩
theorem Tryz.sort128 : Go.Proofs.SlLaysM.n6 Tryz.prog Tryz.sort128_ren := {
  mixed := by kernel_rfl
  f6 := ⟨Tryz.f128.name, by decide, Tryz.func128.trans (congrArg some (by kernel_rfl))⟩
  f8 := Tryz.func134.trans (congrArg some (by kernel_rfl))
  f9 := ⟨Tryz.f136.name, by decide, Tryz.func136.trans (congrArg some (by kernel_rfl))⟩
  f19 := Tryz.func148.trans (congrArg some (by kernel_rfl))
  f20 := Tryz.func149.trans (congrArg some (by kernel_rfl))
  f21 := ⟨Tryz.f150.name, by decide, Tryz.func150.trans (congrArg some (by kernel_rfl))⟩
  f22 := ⟨Tryz.f151.name, by decide, Tryz.func151.trans (congrArg some (by kernel_rfl))⟩
  f23 := ⟨Tryz.f152.name, by decide, Tryz.func152.trans (congrArg some (by kernel_rfl))⟩
  f24 := ⟨Tryz.f153.name, by decide, Tryz.func153.trans (congrArg some (by kernel_rfl))⟩
  f25 := ⟨Tryz.f154.name, by decide, Tryz.func154.trans (congrArg some (by kernel_rfl))⟩
  f26 := ⟨Tryz.f155.name, by decide, Tryz.func155.trans (congrArg some (by kernel_rfl))⟩
  f27 := ⟨Tryz.f156.name, by decide, Tryz.func156.trans (congrArg some (by kernel_rfl))⟩
  f28 := ⟨Tryz.f157.name, by decide, Tryz.func157.trans (congrArg some (by kernel_rfl))⟩
  f29 := ⟨Tryz.f158.name, by decide, Tryz.func158.trans (congrArg some (by kernel_rfl))⟩
  f31 := Tryz.func160.trans (congrArg some (by kernel_rfl))
  f32 := Tryz.func161.trans (congrArg some (by kernel_rfl))
  f36 := ⟨Tryz.f164.name, by decide, Tryz.func164.trans (congrArg some (by kernel_rfl))⟩
  f37 := ⟨Tryz.f165.name, by decide, Tryz.func165.trans (congrArg some (by kernel_rfl))⟩
  f38 := ⟨Tryz.f166.name, by decide, Tryz.func166.trans (congrArg some (by kernel_rfl))⟩
  f39 := ⟨Tryz.f119.name, by decide, Tryz.func119.trans (congrArg some (by kernel_rfl))⟩
  f41 := ⟨Tryz.f168.name, by decide, Tryz.func168.trans (congrArg some (by kernel_rfl))⟩
  t0 := Tryz.underlying0
  a0 := Tryz.isAgg0
  z0 := Tryz.sizeOf0
  v0 := Tryz.zeroValue0
  t3 := Tryz.underlying3
  a3 := Tryz.isAgg3
  z3 := Tryz.sizeOf3
  v3 := Tryz.zeroValue3
  t4 := Tryz.underlying4
  a4 := Tryz.isAgg4
  z4 := Tryz.sizeOf4
  v4 := Tryz.zeroValue4
  t5 := Tryz.underlying5
  a5 := Tryz.isAgg5
  z5 := Tryz.sizeOf5
  v5 := Tryz.zeroValue5
  t9 := Tryz.underlying9
  a9 := Tryz.isAgg9
  z9 := Tryz.sizeOf9
  v9 := Tryz.zeroValue9
  t26 := Tryz.underlying176
  a26 := Tryz.isAgg176
  z26 := Tryz.sizeOf176
  v26 := Tryz.zeroValue176
  t27 := Tryz.underlying176
  a27 := Tryz.isAgg176
  z27 := Tryz.sizeOf176
  v27 := Tryz.zeroValue176
  t29 := Tryz.underlying9
  a29 := Tryz.isAgg9
  z29 := Tryz.sizeOf9
  v29 := Tryz.zeroValue9
  t32 := Tryz.underlying185
  a32 := Tryz.isAgg185
  z32 := Tryz.sizeOf185
  v32 := Tryz.zeroValue185
  t35 := Tryz.underlying198
  a35 := Tryz.isAgg198
  z35 := Tryz.sizeOf198
  v35 := Tryz.zeroValue198
  t36 := Tryz.underlying199
  a36 := Tryz.isAgg199
  z36 := Tryz.sizeOf199
  v36 := Tryz.zeroValue199
  t41 := Tryz.underlying83
  a41 := Tryz.isAgg83
  z41 := Tryz.sizeOf83
  v41 := Tryz.zeroValue83
  t44 := Tryz.underlying205
  a44 := Tryz.isAgg205
  z44 := Tryz.sizeOf205
  v44 := Tryz.zeroValue205
  t46 := Tryz.underlying147
  a46 := Tryz.isAgg147
  z46 := Tryz.sizeOf147
  v46 := Tryz.zeroValue147
  t53 := Tryz.underlying213
  a53 := Tryz.isAgg213
  z53 := Tryz.sizeOf213
  v53 := Tryz.zeroValue213
  t57 := Tryz.underlying217
  a57 := Tryz.isAgg217
  z57 := Tryz.sizeOf217
  v57 := Tryz.zeroValue217
  t63 := Tryz.underlying221
  a63 := Tryz.isAgg221
  z63 := Tryz.sizeOf221
  v63 := Tryz.zeroValue221
  t64 := Tryz.underlying87
  a64 := Tryz.isAgg87
  z64 := Tryz.sizeOf87
  v64 := Tryz.zeroValue87 }
end Go.Proofs
namespace Go.Proofs.YtgncepjnbdhmkaaGreat.R
open Go Go.Ab Go.Proofs Go.RowKit Go.Maps Go.Sort Go.Shelf
set_option linter.unusedVariables false
def keys110_r (j : Nat) (m : GM Int Int) : Prop := Con Tryz.prog 110 [.ref j] [(j, .map false m.clock (m.ents (kI .i64) eN))] (fun r o => r = .fn 126 [.at 660 0] ∧ o = [(660, .box [.ref j]), (j, .map false m.clock (m.ents (kI .i64) eN))])
def sorted109_r (j : Nat) (m : GM Int Int) (l : List Int) : Prop := Con Tryz.prog 109 [.fn 126 [.at 660 0]] [(660, .box [.ref j]), (j, .map false m.clock (m.ents (kI .i64) eN))] (fun r o => r = .t (.sl 1 (l.map eN)) ∧ o = [(660, .box [.ref j]), (j, .map false m.clock (m.ents (kI .i64) eN))])
theorem keys110_ok {j : Nat} (m : GM Int Int) (hij : 660 ≠ j) (hl : loose j = false) : keys110_r j m := Con_mkKeys (et := Tryz.keys110_ren.t 23) hij hl (enters_of Tryz.func110 (by kernel_rfl) rfl) fun mb w => (callsIn_wide (n := 5)).1 (AnyZI.keys_in Tryz.keys110 Fence.wide 5 trivial rfl mb w)
theorem sorts109 (n : Nat) : AnyZI.SortsIn Tryz.prog Tryz.sorted109_ren Fence.wide n := ⟨fun blk off cap ss W hH hblk hsz => callsIn_wide.2 (AnyM.slices_Sort_int Tryz.sort125 blk off cap ss W hH hblk hsz), fun p cap W => callsIn_wide.2 (AnyM.slices_Sort_int_none Tryz.sort125 p cap W)⟩
theorem sorted109_ok {j : Nat} {m : GM Int Int} (hij : 660 ≠ j) (hm : m.ok (InK .i64)) : sorted109_r j m (sortI m.keys) := Con_keysI (ρ6 := Tryz.sorted109_ren) (ρ10 := Tryz.keys110_ren) hij Tryz.sorted109 { Tryz.keys110 with } Tryz.keys110.t26 (sorts109) (enters_of Tryz.func125 (by kernel_rfl) rfl) (enters_of Tryz.func126 (by kernel_rfl) rfl) (enters_of Tryz.func109 (by kernel_rfl) rfl) hm
def keys112_r (j : Nat) (m : GM ByteArray Int) : Prop := Con Tryz.prog 112 [.ref j] [(j, .map false m.clock (m.ents kS eN))] (fun r o => r = .fn 129 [.at 664 0] ∧ o = [(664, .box [.ref j]), (j, .map false m.clock (m.ents kS eN))])
def sorted111_r (j : Nat) (m : GM ByteArray Int) (l : List ByteArray) : Prop := Con Tryz.prog 111 [.fn 129 [.at 664 0]] [(664, .box [.ref j]), (j, .map false m.clock (m.ents kS eN))] (fun r o => r = .t (.sl 1 (l.map eS)) ∧ o = [(664, .box [.ref j]), (j, .map false m.clock (m.ents kS eN))])
theorem keys112_ok {j : Nat} (m : GM ByteArray Int) (hij : 664 ≠ j) (hl : loose j = false) : keys112_r j m := Con_mkKeys (et := Tryz.keys112_ren.t 23) hij hl (enters_of Tryz.func112 (by kernel_rfl) rfl) fun mb w => (callsIn_wide (n := 5)).1 (AnyZ.keys_in Tryz.keys112 Fence.wide 5 trivial rfl mb w)
theorem sorts111 (n : Nat) : AnyZ.SortsIn Tryz.prog Tryz.sorted111_ren Fence.wide n := ⟨fun blk off cap ss W hH hblk hsz => callsIn_wide.2 (AnyM.slices_Sort_string Tryz.sort128 blk off cap ss W hH hblk hsz), fun p cap W => callsIn_wide.2 (AnyM.slices_Sort_string_none Tryz.sort128 p cap W)⟩
theorem sorted111_ok {j : Nat} {m : GM ByteArray Int} (hij : 664 ≠ j) (hm : m.ok (fun b : ByteArray => b.size ≤ maxLen)) : sorted111_r j m (sortS m.keys) := Con_keysS (ρ6 := Tryz.sorted111_ren) (ρ10 := Tryz.keys112_ren) hij Tryz.sorted111 { Tryz.keys112 with } Tryz.keys112.t26 (sorts111) (enters_of Tryz.func128 (by kernel_rfl) rfl) (enters_of Tryz.func129 (by kernel_rfl) rfl) (enters_of Tryz.func111 (by kernel_rfl) rfl) hm
end Go.Proofs.YtgncepjnbdhmkaaGreat.R
