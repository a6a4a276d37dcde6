/- slices.Delete at []api.Lot, a row of the caller's own: the walk, by hand. -/
import Derived.Test.YtjjemfbpodgihaaX0
import Derived.WalkKit
import Derived.Deep.RegionLaw
import Derived.Shelf.RegionOpenPlain
import Derived.Deep.LoopGhost
import Derived.Lib.SliceRun
import Derived.Test.YtjjemfbpodgihaaWKept
namespace Go.Proofs.Ytjjemfbpodgihaa.X
open Go Go.RowKit Go.Proofs.YtjjemfbpodgihaaW.PrintWords Go.Proofs.YtjjemfbpodgihaaW.PrintLast Go.Proofs.YtjjemfbpodgihaaW.PrintMore

def slices_Delete_api_Lot_api_Lot.f (l0 : List (S43)) (a1 : Int) (a2 : Int) : Option (List (S43)) :=
  if 0 ≤ a1 ∧ a1 ≤ a2 ∧ a2 ≤ (l0.length : Int) then some (l0.take a1.toNat ++ l0.drop a2.toNat) else none

namespace Del
theorem run_clear_cells {P : Program} {n : Nat} (w : World) (t e ty : TypeId) (z : Value) (ht : P.underlying t = some (.slice e)) (hv : ∀ w, (zeroValue e).run P w = .ok z w) (h1 : ∀ v ∈ (Builtin.zeroCells z.cells n).toList, v.oneCell' = true) (b o c : Nat) (hn : 0 < n)
    (hc : ∀ j, j < (Builtin.zeroCells z.cells n).toList.length → (w.cell? ⟨b, o + j, none⟩).isSome = true) (hf : ∀ j, j < (Builtin.zeroCells z.cells n).toList.length → w.frozen? ⟨b, o + j, none⟩ = false) :
    (Builtin.clear_ #[t] ty #[.slice (some ⟨b, o, none⟩) n c]).run P w = .ok (.tuple #[]) (w.setCells b o (Builtin.zeroCells z.cells n).toList) := by
  have hst := run_storeCells_cells (P := P) b o (Builtin.zeroCells z.cells n).toList 0 w (by simpa using hc) (by simpa using hf) h1
  simp only [Nat.add_zero] at hst
  obtain ⟨m, rfl⟩ : ∃ m, n = m + 1 := ⟨n - 1, by omega⟩
  simp [Builtin.clear_, run_underlying ht, hv, hst]
end Del
set_option maxHeartbeats 4000000 in
set_option maxRecDepth 1000000 in
theorem slices_Delete_api_Lot_api_Lot.calls (P0_ : Nat → Prop) (u9000_ : Value) (l0 : List (S43)) (a1 : Int) (a2 : Int) (r : List (S43)) (w0 w : World) (hB : Below w0.heap.size w0 w) (ho0 : Kd.R k43 43 w w0.heap.size P0_ u9000_ l0) (h : slices_Delete_api_Lot_api_Lot.f l0 a1 a2 = some r) :
    Calls Try.prog 34 #[u9000_, .int .i64 a1, .int .i64 a2] w fun e w' => ∃ v0_ : Value, e = .returned v0_ ∧ Kd.R k43 43 w' w0.heap.size (fun k_ => (P0_ k_ ∨ w.heap.size ≤ k_)) v0_ r ∧ Below w0.heap.size w0 w' ∧ Kept w w' (fun k_ => P0_ k_) := by
  unfold slices_Delete_api_Lot_api_Lot.f at h
  by_cases c : 0 ≤ a1 ∧ a1 ≤ a2 ∧ a2 ≤ (l0.length : Int)
  case neg => rw [if_neg c] at h; cases h
  rw [if_pos c] at h
  obtain rfl := Option.some.inj h
  clear h
  obtain ⟨c0, c1, c2⟩ := c
  obtain ⟨i, rfl⟩ := Int.eq_ofNat_of_zero_le c0
  obtain ⟨j, rfl⟩ := Int.eq_ofNat_of_zero_le (Int.le_trans c0 c1)
  replace c1 : i ≤ j := by omega
  replace c2 : j ≤ l0.length := by omega
  clear c0
  rw [Int.toNat_natCast, Int.toNat_natCast]
  by_cases hij : i = j
  · subst hij
    rw [List.take_append_drop]
    have hw : Calls Try.prog 34 #[u9000_, .int .i64 (i : Int), .int .i64 (i : Int)] w fun e w' => e = .returned u9000_ ∧ w' = w := by
      obtain ⟨A, cap, rfl⟩ := Kd.R_slice ho0
      have hcap : l0.length ≤ cap ∧ cap ≤ 9223372036854775807 := by
        obtain ⟨_, inner, ho, _⟩ := ho0
        rcases ho.2 with ⟨e, z⟩ | ⟨g, cap', cur, e, _, _, h1, h2, _⟩
        · injection e with e1 e2 e3; omega
        · injection e with e1 e2 e3; subst e3; exact ⟨h1, h2⟩
      clear hB ho0
      obtain ⟨hc1, hc2⟩ := hcap
      go_enter Try.func34, Try.ntmps34
      go_wp2
      all_goals (go_ret; exact ⟨rfl, rfl⟩)
    refine hw.mono ?_
    rintro e w' ⟨rfl, rfl⟩
    exact ⟨_, rfl, Kd.R_mono ho0 (fun _ hk => .inl hk), hB, Kept.refl _ _⟩
  · have hlt : i < j := by omega
    obtain ⟨h0, inner, ho, hr⟩ := ho0
    rcases ho.2 with ⟨_, z⟩ | ⟨g, cap, cur, rfl, hg, hh, hcap, hmax, hsz, htk⟩
    · omega
    obtain ⟨n, hn⟩ : ∃ n, n = l0.length := ⟨_, rfl⟩
    rw [← hn] at hcap htk c2
    have hmax' : cap ≤ 9223372036854775807 := hmax
    have hs2 : k43.sz = 2 := rfl
    rw [hs2] at hsz htk hr ho
    have hil : inner.length = n * 2 := by rw [hn]; exact hr.1
    have cell : ∀ (W : World) (cc : Array Value), W.heap[g]? = some (.cells cc 43 (0, 0)) → ∀ q, W.cell? ⟨g, q, none⟩ = cc[q]? := fun W cc e q => by simp [World.cell?, e]
    have froz : ∀ (W : World) (cc : Array Value), W.heap[g]? = some (.cells cc 43 (0, 0)) → ∀ q, W.frozen? ⟨g, q, none⟩ = false := fun W cc e q => by simp [World.frozen?, e]
    obtain ⟨news, hnews⟩ : ∃ news, news = inner.drop (j * 2) := ⟨_, rfl⟩
    have hlen : news.length = (n - j) * 2 := by rw [hnews, List.length_drop, hil]; omega
    have hone : ∀ u ∈ inner, u.oneCell' = true := Kd.reps_one hr (by omega) (fun p c hp => k43.K_one (k43.K_of_M hp))
    have hcur : ∀ q, q < n * 2 → cur[q]? = inner[q]? := fun q hq => by
      rw [← htk, List.getElem?_take_of_lt hq, Array.getElem?_toList]
    obtain ⟨A, hA, hsrc⟩ : ∃ A : Addr, (if cap = j then some (⟨g, 0, none⟩ : Addr) else some ⟨g, j * 2, none⟩) = some A ∧ Aside0 (∀ t u, news[t]? = some u → w.drew.cell? (A.add t) = some u) := by
      by_cases hc : cap = j
      · refine ⟨⟨g, 0, none⟩, by simp [hc], ⟨fun t u hu => ?_⟩⟩
        have h0 : news.length = 0 := by rw [hlen]; omega
        rw [List.length_eq_zero_iff.1 h0] at hu
        simp at hu
      · refine ⟨⟨g, j * 2, none⟩, by simp [hc], ⟨fun t u hu => ?_⟩⟩
        have ht : t < (n - j) * 2 := by
          have := (List.getElem?_eq_some_iff.1 hu).1
          rwa [hlen] at this
        rw [hnews, List.getElem?_drop] at hu
        rw [show (⟨g, j * 2, none⟩ : Addr).add t = ⟨g, j * 2 + t, none⟩ by unfold Addr.add; simp]
        refine (cell w.drew cur hh _).trans ?_
        rw [hcur _ (by omega)]
        exact hu
    have s1 : Aside0 (news.length = (n - j) * 2) := ⟨hlen⟩
    have s2 : Aside0 (∀ u ∈ news, u.oneCell' = true) := ⟨fun u hu => by rw [hnews] at hu; exact hone u (List.mem_of_mem_drop hu)⟩
    have s3 : Aside0 (∀ t, t < news.length → (w.drew.cell? ⟨g, 0 + i * 2 + t, none⟩).isSome = true ∧ w.drew.frozen? ⟨g, 0 + i * 2 + t, none⟩ = false) := ⟨fun t ht => by
      rw [hlen] at ht
      refine ⟨?_, froz w.drew cur hh _⟩
      rw [cell w.drew cur hh _, Array.getElem?_eq_getElem (by omega)]
      rfl⟩
    obtain ⟨W1, hW1⟩ : ∃ W1, W1 = w.drew.setCells g (0 + i * 2) news := ⟨_, rfl⟩
    obtain ⟨cur1, hh1, hsz1, hl1⟩ := setCells_row (e := 43) news (0 + i * 2) w.drew cur hh (by rw [hlen]; omega)
    rw [← hW1] at hh1
    obtain ⟨zs, hzs⟩ : ∃ zs, zs = (Builtin.zeroCells (Value.agg #[(.string ⟨#[]⟩), (.int .i64 0)]).cells (n - (i + (n - j)))).toList := ⟨_, rfl⟩
    have hzl : zs.length = (n - (i + (n - j))) * 2 := by rw [hzs]; simp [Builtin.zeroCells, Value.cells]
    have hz1 : ∀ v ∈ zs, v.oneCell' = true := fun v hv => by
      rw [hzs] at hv
      simp only [Builtin.zeroCells, Value.cells, Array.toList_map, List.mem_map] at hv
      obtain ⟨q, _, rfl⟩ := hv
      rcases Nat.mod_two_eq_zero_or_one q with e | e <;> simp [e] <;> rfl
    have hcl : ∀ ty, (Builtin.clear_ #[22] ty #[.slice (some ⟨g, (i + (n - j)) * 2, none⟩) (n - (i + (n - j))) (cap - (i + (n - j)))]).run Try.prog W1 = .ok (.tuple #[]) (W1.setCells g ((i + (n - j)) * 2) zs) := fun ty => by
      rw [hzs] at hzl hz1 ⊢
      refine Del.run_clear_cells W1 22 43 ty (.agg #[(.string ⟨#[]⟩), (.int .i64 0)]) Try.underlying22 ?_ hz1 g _ _ (by omega) (fun q hq => ?_) (fun q hq => froz W1 cur1 hh1 _)
      · intro w
        rfl
      · rw [hzl] at hq
        rw [cell W1 cur1 hh1, Array.getElem?_eq_getElem (by omega)]
        rfl
    have X : Aside0 (W1.heap[g]? = some (.cells cur1 43 (0, 0)) ∧ cur1.size = cur.size ∧ cur1.toList = cur.toList.take (0 + i * 2) ++ news ++ cur.toList.drop (0 + i * 2 + news.length)) := ⟨⟨hh1, hsz1, hl1⟩⟩
    have hW : Aside0 (W1 = w.drew.setCells g (0 + i * 2) news) := ⟨hW1⟩
    have Y : Aside0 (cur.size = cap * 2 ∧ cur.toList.take (n * 2) = inner ∧ Reps (k43.M w w0.heap.size (fun k => P0_ k ∧ some k ≠ (Value.slice (some ⟨g, 0, none⟩) l0.length cap).ownBlock)) 2 l0 inner ∧ news = inner.drop (j * 2) ∧ zs.length = (n - (i + (n - j))) * 2) := ⟨⟨hsz, htk, hr, hnews, hzl⟩⟩
    have Z : Aside0 (Below w0.heap.size w0 w ∧ w0.heap.size ≤ g ∧ (∀ k, (Value.slice (some ⟨g, 0, none⟩) l0.length cap).ownBlock = some k → P0_ k) ∧ w.heap[g]? = some (.cells cur 43 (0, 0))) := ⟨⟨hB, hg, h0, hh⟩⟩
    have hmix : Try.prog.follows Departure.mixedOrders = true := by kernel_rfl
    have hic : i ≤ cap := by omega
    have hjc : j ≤ cap := by omega
    obtain ⟨i0, hi0, hz0, hz2, hz3⟩ := info_parts info43
    clear hW1 hh1 hsz1 hl1 hzs hzl hz1 hnews hlen hone hcur cell froz hh htk hsz hr ho hil h0 hB hg hij hmax
    rw [← hn]
    have HN := Aside0.mk hn
    clear hn hs2
    go_enter Try.func34, Try.ntmps34
    go_wp2_with fail
    go_region_law_o (refine step_append_room rfl (.tmp 22) (.tmp 25) 22 rfl 43 i0 2 Try.underlying22 hi0 hz2 g 0 i cap (by simp [Act.eval, Act.put]) A (n - j) (cap - j) news (by simp [Act.eval, Act.put]) s1.out hsrc.out s2.out (by omega) s3.out ?_; rw [← hW.out])
    go_wp2
    go_ret
    obtain ⟨x1, x2, x3⟩ := X.out
    obtain ⟨y1, y2, y3, y4, y5⟩ := Y.out
    obtain ⟨z1, z2, z3, z4⟩ := Z.out
    have hn := HN.out
    have hnl := s1.out
    have hil : inner.length = n * 2 := by rw [hn]; exact y3.1
    obtain ⟨cur2, h2, hs2, hl2⟩ := setCells_row (e := 43) zs ((i + (n - j)) * 2) W1 cur1 x1 (by rw [y5, x2, y1]; omega)
    obtain ⟨o1, o2, o3, o4⟩ := setCells_same g zs ((i + (n - j)) * 2) W1
    obtain ⟨p1, p2, p3, p4⟩ := setCells_same g news (0 + i * 2) w.drew
    rw [← hW.out] at p1 p2 p3 p4
    have far : ∀ k, k ≠ g → (W1.setCells g ((i + (n - j)) * 2) zs).heap[k]? = w.heap[k]? := fun k hk => by
      rw [setCells_far _ _ k hk, hW.out, setCells_far _ _ k hk]; rfl
    have sz : (W1.setCells g ((i + (n - j)) * 2) zs).heap.size = w.heap.size := by rw [o4, p4]; rfl
    have pg : P0_ g := z3 g rfl
    have ext : Below w0.heap.size w0 (W1.setCells g ((i + (n - j)) * 2) zs) := by
      refine ⟨?_, ?_, ?_, ?_, fun k hk => (far k (by omega)).trans (z1.block k hk)⟩
      · rw [o1, p1]; exact z1.os
      · rw [o2, p2]; exact z1.tape
      · rw [o3, p3]; exact z1.output
      · rw [sz]; exact z1.size
    refine ⟨_, rfl, ⟨fun k hk => .inl (z3 k hk), inner.take (i * 2) ++ inner.drop (j * 2), ⟨?_, .inr ⟨g, cap, cur2, ?_, z2, h2, ?_, hmax', ?_, ?_⟩⟩, ?_⟩, ext, ⟨by rw [sz]; exact Nat.le_refl _, fun k hk hP => far k (fun e => hP (e ▸ pg))⟩⟩
    · show _ = _ * 2
      simp only [List.length_append, List.length_take, List.length_drop, hil, ← hn]; omega
    · simp only [List.length_append, List.length_take, List.length_drop, ← hn]; rw [Nat.min_eq_left (by omega)]; rfl
    · simp only [List.length_append, List.length_take, List.length_drop, ← hn]; omega
    · rw [hs2, x2, y1]; rfl
    · show cur2.toList.take (_ * 2) = _
      have e1 : (List.take i l0 ++ List.drop j l0).length * 2 = (i + (n - j)) * 2 := by simp only [List.length_append, List.length_take, List.length_drop, ← hn]; rw [Nat.min_eq_left (by omega)]
      have lc : cur.toList.length = cap * 2 := by rw [Array.length_toList]; exact y1
      have l1 : (cur.toList.take (0 + i * 2)).length = i * 2 := by rw [List.length_take, lc]; omega
      have l2 : cur1.toList.length = cap * 2 := by rw [Array.length_toList, x2]; exact y1
      rw [e1, hl2, List.append_assoc, List.take_append_of_le_length (by rw [List.length_take, l2]; omega), List.take_take, Nat.min_self, x3, List.take_append_of_le_length (by rw [List.length_append, l1, hnl]; omega),
        List.take_of_length_le (by rw [List.length_append, l1, hnl]; omega), y4, ← y2, List.take_take, Nat.zero_add, Nat.min_eq_left (by omega)]
    · refine Reps.imp_ (Kd.reps_append (Kd.reps_take y3 (by omega)) (Kd.reps_drop y3)) (fun x c hx => ?_)
      refine k43.M_mono (fun k hk => ⟨.inl hk.1, ?_⟩) (k43.M_move (fun k hk => far k (fun e => hk.2 (by rw [e]; rfl))) hx)
      exact hk.2
end Go.Proofs.Ytjjemfbpodgihaa.X
