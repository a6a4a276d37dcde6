/- slices.Delete of one lot, as a contract over a list of the call's own. -/
import Derived.WalkKit
import Derived.Deep.RegionLaw
import Derived.Shelf.RegionOpenPlain
import Derived.Deep.LoopGhost
import Derived.Lib.SliceRun
import Derived.Laws.IdiomCopy
import Derived.Test.YtfommamkaaggjaaAbIn
import Derived.Test.YtfommamkaaggjaaIN0
namespace Go.Proofs.Ytfommamkaaggjaa.Pure
open Go Go.Ab Go.RowKit Go.Lib Go.Proofs Go.Shelf
set_option linter.unusedVariables false
set_option linter.unusedSimpArgs false
namespace Del
structure Aside (p : Prop) : Prop where
  out : p
theorem run_clear_cells {P : Program} {n : Nat} (w : World) (t e ty : TypeId) (z : Value) (ht : P.underlying t = some (.slice e)) (hv : ∀ w, (zeroValue e).run P w = .ok z w) (h1 : ∀ v ∈ (Builtin.zeroCells z.cells n).toList, v.oneCell' = true) (b o c : Nat) (hn : 0 < n)
    (hc : ∀ j, j < (Builtin.zeroCells z.cells n).toList.length → (w.cell? ⟨b, o + j, none⟩).isSome = true) (hf : ∀ j, j < (Builtin.zeroCells z.cells n).toList.length → w.frozen? ⟨b, o + j, none⟩ = false) :
    (Builtin.clear_ #[t] ty #[.slice (some ⟨b, o, none⟩) n c]).run P w = .ok (.tuple #[]) (w.setCells b o (Builtin.zeroCells z.cells n).toList) := by
  have hst := run_storeCells_cells (P := P) b o (Builtin.zeroCells z.cells n).toList 0 w (by simpa using hc) (by simpa using hf) h1
  simp only [Nat.add_zero] at hst
  obtain ⟨m, rfl⟩ : ∃ m, n = m + 1 := ⟨n - 1, by omega⟩
  simp [Builtin.clear_, run_underlying ht, hv, hst]

set_option maxHeartbeats 4000000 in
set_option maxRecDepth 1000000 in
theorem walk (g n cap i j : Nat) (et : TypeId) (cur : Array Value) (inner : List Value) (w : World) (hlt : i < j) (c2 : j ≤ n) (hcap : n ≤ cap) (hmax' : cap ≤ 9223372036854775807) (hh : w.heap[g]? = some (.cells cur et (0, 0))) (hsz : cur.size = cap * 2)
    (hil : inner.length = n * 2) (hcur : ∀ q, q < n * 2 → cur[q]? = inner[q]?) (hone : ∀ u ∈ inner, u.oneCell' = true) :
    ∃ zs : List Value, zs.length = (n - (i + (n - j))) * 2 ∧
      Calls Try.prog 36 #[.slice (some ⟨g, 0, none⟩) n cap, .int .i64 (i : Int), .int .i64 (j : Int)] w fun e w' =>
        e = .returned (.slice (some ⟨g, 0, none⟩) (i + (n - j)) cap) ∧ w' = (w.drew.setCells g (0 + i * 2) (inner.drop (j * 2))).setCells g ((i + (n - j)) * 2) zs := by
  have cell : ∀ (W : World) (cc : Array Value), W.heap[g]? = some (.cells cc et (0, 0)) → ∀ q, W.cell? ⟨g, q, none⟩ = cc[q]? := fun W cc e q => by simp [World.cell?, e]
  have froz : ∀ (W : World) (cc : Array Value), W.heap[g]? = some (.cells cc et (0, 0)) → ∀ q, W.frozen? ⟨g, q, none⟩ = false := fun W cc e q => by simp [World.frozen?, e]
  obtain ⟨news, hnews⟩ : ∃ news, news = inner.drop (j * 2) := ⟨_, rfl⟩
  have hlen : news.length = (n - j) * 2 := by rw [hnews, List.length_drop, hil]; omega
  obtain ⟨A, hA, hsrc⟩ : ∃ A : Addr, (if cap = j then some (⟨g, 0, none⟩ : Addr) else some ⟨g, j * 2, none⟩) = some A ∧ Aside (∀ t u, news[t]? = some u → w.drew.cell? (A.add t) = some u) := by
    by_cases hc : cap = j
    · refine ⟨⟨g, 0, none⟩, by simp [hc], ⟨fun t u hu => ?_⟩⟩
      have h0 : news.length = 0 := by rw [hlen]; omega
      rw [List.length_eq_zero_iff.1 h0] at hu
      simp at hu
    · refine ⟨⟨g, j * 2, none⟩, by simp [hc], ⟨fun t u hu => ?_⟩⟩
      have ht : t < (n - j) * 2 := by
        have := (List.getElem?_eq_some_iff.1 hu).1
        rwa [hlen] at this
      rw [hnews, List.getElem?_drop] at hu
      rw [show (⟨g, j * 2, none⟩ : Addr).add t = ⟨g, j * 2 + t, none⟩ by unfold Addr.add; simp]
      refine (cell w.drew cur hh _).trans ?_
      rw [hcur _ (by omega)]
      exact hu
  have s1 : Aside (news.length = (n - j) * 2) := ⟨hlen⟩
  have s2 : Aside (∀ u ∈ news, u.oneCell' = true) := ⟨fun u hu => by rw [hnews] at hu; exact hone u (List.mem_of_mem_drop hu)⟩
  have s3 : Aside (∀ t, t < news.length → (w.drew.cell? ⟨g, 0 + i * 2 + t, none⟩).isSome = true ∧ w.drew.frozen? ⟨g, 0 + i * 2 + t, none⟩ = false) := ⟨fun t ht => by
    rw [hlen] at ht
    refine ⟨?_, froz w.drew cur hh _⟩
    rw [cell w.drew cur hh _, Array.getElem?_eq_getElem (by omega)]
    rfl⟩
  obtain ⟨W1, hW1⟩ : ∃ W1, W1 = w.drew.setCells g (0 + i * 2) news := ⟨_, rfl⟩
  obtain ⟨cur1, hh1, hsz1, hl1⟩ := cells_row (e := et) news (0 + i * 2) w.drew cur hh (by rw [hlen]; omega)
  rw [← hW1] at hh1
  obtain ⟨zs, hzs⟩ : ∃ zs, zs = (Builtin.zeroCells (Value.agg #[(.string ⟨#[]⟩), (.int .i64 0)]).cells (n - (i + (n - j)))).toList := ⟨_, rfl⟩
  have hzl : zs.length = (n - (i + (n - j))) * 2 := by rw [hzs]; simp [Builtin.zeroCells, Value.cells]
  have hz1 : ∀ v ∈ zs, v.oneCell' = true := fun v hv => by
    rw [hzs] at hv
    simp only [Builtin.zeroCells, Value.cells, Array.toList_map, List.mem_map] at hv
    obtain ⟨q, _, rfl⟩ := hv
    rcases Nat.mod_two_eq_zero_or_one q with e | e <;> simp [e] <;> rfl
  have hcl : ∀ ty, (Builtin.clear_ #[28] ty #[.slice (some ⟨g, (i + (n - j)) * 2, none⟩) (n - (i + (n - j))) (cap - (i + (n - j)))]).run Try.prog W1 = .ok (.tuple #[]) (W1.setCells g ((i + (n - j)) * 2) zs) := fun ty => by
    rw [hzs] at hzl hz1 ⊢
    refine run_clear_cells W1 28 68 ty (.agg #[(.string ⟨#[]⟩), (.int .i64 0)]) Try.underlying28 ?_ hz1 g _ _ (by omega) (fun q hq => ?_) (fun q hq => froz W1 cur1 hh1 _)
    · intro w
      rfl
    · rw [hzl] at hq
      rw [cell W1 cur1 hh1, Array.getElem?_eq_getElem (by omega)]
      rfl
  have hW : Aside (W1 = w.drew.setCells g (0 + i * 2) news) := ⟨hW1⟩
  have hmix : Try.prog.follows Departure.mixedOrders = true := by kernel_rfl
  have hic : i ≤ cap := by omega
  have hjc : j ≤ cap := by omega
  obtain ⟨i0, hi0, hz0, hz2, hz3⟩ := info_parts info68
  refine ⟨zs, hzl, ?_⟩
  rw [← hnews]
  clear hW1 hh1 hsz1 hl1 hzs hzl hz1 hnews hlen hone hcur cell froz hh hsz hil
  go_enter Try.func36, Try.ntmps36
  go_wp2_with fail
  go_region_law_o (refine step_append_room rfl (.tmp 22) (.tmp 25) 28 rfl 68 i0 2 Try.underlying28 hi0 hz2 g 0 i cap (by simp [Act.eval, Act.put]) A (n - j) (cap - j) news (by simp [Act.eval, Act.put]) s1.out hsrc.out s2.out (by omega) s3.out ?_; rw [← hW.out])
  go_wp2
  go_ret
  exact ⟨rfl, by rw [hW.out]⟩
end Del

set_option maxRecDepth 100000 in
set_option maxHeartbeats 2000000 in
theorem Con_delete {rows : List (List T)} {i : Nat} (hi : i < rows.length) (ef : Enter Try.prog 36) :
    Con Try.prog 36 [.ref 620, .t (i64 i), .t (i64 ((i : Int) + 1))] [(620, .row 2 rows)] (fun r o => r = .ref 1600 ∧ o = [(1600, .row 2 (rows.take i ++ rows.drop (i + 1)))]) := by
  refine ⟨ef, fun hid σ w us hh hu => ?_⟩
  have o0 := hh.obj 620 _ rfl
  simp only [relAs, relA, i64, rep] at hu
  obtain ⟨_, _, rfl, rfl, _, _, rfl, rfl, _, _, rfl, rfl, rfl⟩ := hu
  simp only [relO] at o0
  rcases o0 with ⟨h0, _⟩ | ⟨g, cap, cur, e, hs, hc, hn, hm, hz, hr, hp⟩
  · subst h0; simp at hi
  have og : own σ (ofO [(620, O.row 2 rows)]) g := ⟨620, rfl, by rw [hs]; exact block_some hp⟩
  obtain ⟨cs, l1, r1, c1, v1⟩ := flat_rows _ _ 0 hr
  have hm' : cap ≤ 9223372036854775807 := hm
  have lr : (rows.take i ++ rows.drop (i + 1)).length = i + (rows.length - (i + 1)) := by simp; omega
  have rd : ∀ q, q < rows.length * 2 → cur[q]? = cs[q]? := fun q hq => by
    obtain ⟨v, hv⟩ : ∃ v, cs[q]? = some v := ⟨_, List.getElem?_eq_getElem (by omega)⟩
    have := v1 q v hv
    rw [hv]; simpa using this
  have reps : ∀ C', (view hid (own σ (ofO [(620, O.row 2 rows)])) w).le C' → repRows C' 2 (rows.take i ++ rows.drop (i + 1)) (fun k => (cs.take (i * 2) ++ cs.drop ((i + 1) * 2))[k]?) 0 := fun C' hC => by
    have a1 := repRows_mono hC _ _ _ _ 0 (fun _ _ x => x) (rr_take i r1)
    have a3 := repRows_mono hC _ _ _ _ 0 (fun _ _ x => x) (rr_drop (i + 1) r1)
    have t1 : (cs.take (i * 2)).length = (rows.take i).length * 2 := by rw [List.length_take, List.length_take, l1]; omega
    exact rr_app t1 a1 a3
  rw [hs]
  obtain ⟨zs, zl, hcall⟩ := Del.walk g rows.length cap i (i + 1) e cur cs w (by omega) (by omega) hn hm' hc hz l1 rd c1
  refine hcall.mono ?_
  rintro ev w' ⟨rfl, rfl⟩
  have ld : (cs.drop ((i + 1) * 2)).length = (rows.length - (i + 1)) * 2 := by rw [List.length_drop, l1]; omega
  obtain ⟨cur1, x1, x2, x3⟩ := cells_row (e := e) (cs.drop ((i + 1) * 2)) (0 + i * 2) w.drew cur hc (by rw [ld, hz]; omega)
  obtain ⟨cur3, y1, y2, y3⟩ := cells_row (e := e) zs ((i + (rows.length - (i + 1))) * 2) _ cur1 x1 (by rw [zl, x2, hz]; omega)
  obtain ⟨s1, s2, s3, s4⟩ := cells_same g zs ((i + (rows.length - (i + 1))) * 2) (w.drew.setCells g (0 + i * 2) (cs.drop ((i + 1) * 2)))
  obtain ⟨t1, t2, t3, t4⟩ := cells_same g (cs.drop ((i + 1) * 2)) (0 + i * 2) w.drew
  refine own_out (P := Try.prog) (g := g) (cap := cap) (e := e) (cur := cur3) hh ⟨rfl, rfl⟩ (by rw [lr]) (.inl og) y1 (by rw [lr]; omega) hm (by rw [y2, x2]; exact hz) hp (fun C' hC => repRows_move (reps C' hC) fun k c hk hkc => ?_)
    (by rw [s1, t1]; rfl) (by rw [s2, t2]; rfl) (by rw [s3, t3]; rfl) (by rw [s4, t4]; exact Nat.le_refl _) (fun b hb hlt => by rw [cells_far _ _ b hb, cells_far _ _ b hb]; rfl) rfl
  simp only [Nat.zero_add] at hkc ⊢
  rw [lr] at hk
  rw [y3 k, if_neg (by omega), x3 k, ld]
  by_cases k1 : k < i * 2
  · rw [List.getElem?_append_left (by rw [List.length_take, l1]; omega), List.getElem?_take, if_pos k1] at hkc
    rw [if_neg (by omega), rd k (by omega)]; exact hkc
  · rw [List.getElem?_append_right (by rw [List.length_take, l1]; omega), List.length_take, l1, Nat.min_eq_left (by omega)] at hkc
    rw [if_pos ⟨by omega, by omega⟩, ← hkc]; congr 1; omega
end Go.Proofs.Ytfommamkaaggjaa.Pure
