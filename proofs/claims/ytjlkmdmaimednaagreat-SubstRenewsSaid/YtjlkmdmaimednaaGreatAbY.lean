import Derived.Test.YtjlkmdmaimednaaGreatAbX
import Derived.Shelf.SlIter.Sorted
import Derived.Shelf.SlIterI.Sorted
set_option linter.unusedVariables false
set_option linter.unusedSimpArgs false
namespace Go.Ab
open Go.Shelf Go.Proofs Go.Maps Go.Sort Go.WideElems
theorem own_lt {hid:Nat→Prop} {ρ:Nat→Value} {objs:Nat→Option O} {w:World} (h:Heap hid ρ objs w) {b:Nat} (hb:own ρ objs b):b<w.heap.size:=by
 obtain⟨i,hi,hbi⟩:=hb
 obtain⟨o,ho⟩:=Option.isSome_iff_exists.1 hi
 exact relO_lt (h.obj i o ho) hbi
theorem Heap.below {hid:Nat→Prop} {ρ:Nat→Value} {objs:Nat→Option O} {w w':World} (h:Heap hid ρ objs w) (hb:RowKit.Below w.heap.size w w'):Heap hid ρ objs w':=by
 have hle:(view hid (own ρ objs) w).le (view hid (own ρ objs) w'):=by
  intro b o c hc
  rw [view_some] at hc ⊢
  have hlt:b<w.heap.size:=World.block_lt_of_cell? w _ hc.2.2
  exact⟨hc.1,hc.2.1,by rw [World.cell?_of_block (w:=w) (hb.block b hlt)]; exact hc.2.2⟩
 refine⟨fun i o hi => ?_,h.dis,h.nhid,fun b hbh=>Nat.lt_of_lt_of_le (h.hlt b hbh) hb.size⟩
 have h1:=h.obj i o hi
 exact relO_mono (w:=w) hle (fun b hbo=>hb.block b (relO_lt h1 hbo)) o h1
structure GM.ok {κ ν:Type} (kl:κ→Prop) (m:GM κ ν):Prop where
 few:m.es.length≤1000000
 keys:∀ x∈m.es,x.2.1<m.clock∧kl x.1
 born:(m.es.map (·.2.1)).Nodup
 apart:(m.es.map (·.1)).Nodup
def GM.keys {κ ν:Type} (m:GM κ ν):List κ:=m.es.map (·.1)
end Go.Ab
