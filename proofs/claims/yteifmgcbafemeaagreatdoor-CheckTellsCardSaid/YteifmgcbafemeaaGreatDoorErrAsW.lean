import Derived.Test.YteifmgcbafemeaaGreatDoorErrAs
namespace Go.Proofs.YteifmgcbafemeaaGreatDoor
open Go.RowKit Go.Extern.Stop Go.Stop Go.Extern

/-- What errors.As lays: a copy of the target's pointer, and reflectlite's Value of it twice. -/
def asW (t : Addr) (w : World) : World := ((w.alloc (.cells #[.pointer (some t)] 101)).alloc (.cells #[hdl 101, .pointer (some ⟨w.heap.size, 0, none⟩), .int .u64 150] 128)).alloc (.cells #[hdl 101, .pointer (some ⟨w.heap.size, 0, none⟩), .int .u64 150] 128)
theorem asW_size (t : Addr) (w : World) : (asW t w).heap.size = w.heap.size + 3 := by unfold asW; simp
theorem asW_old (t : Addr) (w : World) (a : Addr) (h : a.block < w.heap.size) : (asW t w).cell? a = w.cell? a := by
  unfold asW
  rw [World.cell?_alloc_lt _ _ a (by simp; omega), World.cell?_alloc_lt _ _ a (by simp; omega), World.cell?_alloc_lt _ _ a h]

set_option maxHeartbeats 4000000 in
theorem as_miss (a t : Addr) (w : World) (hg : w.cell? ⟨10, 0, none⟩ = some (rtV 29)) :
    Calls Tryz.prog 47 #[esV a, .iface 101 (.pointer (some t))] w fun ev w' => ev = .returned (.bool false) ∧ w' = asW t w := by
  have hlt : 10 < w.heap.size := World.block_lt_of_cell? w _ hg
  have c1 := callValueOfPP
  have c2 := callTypePP
  have m1 := methodKind
  have c3 := callKindPP
  have c4 := callKindP
  have m2 := methodElem
  have m3 := methodImplements
  have m4 := methodAssignableTo
  have c5 := callElemPP
  have c6 := callImplementsP
  have c7 := callTypeOf
  have c8 := callAssignableE
  have nA := noAsE
  have uE := noUnwrapE
  have vE := noUnwrapsE
  have n8 := callIsNilPP ⟨w.heap.size, 0, none⟩ t ((w.alloc (.cells #[.pointer (some t)] 101)).alloc (.cells #[hdl 101, .pointer (some ⟨w.heap.size, 0, none⟩), .int .u64 150] 128)) (by simp)
  have hg2 : ((w.alloc (.cells #[.pointer (some t)] 101)).alloc (.cells #[hdl 101, .pointer (some ⟨w.heap.size, 0, none⟩), .int .u64 150] 128)).cell? ⟨10, 0, none⟩ = some (rtV 29) := by
    rw [World.cell?_alloc_lt _ _ _ (by simp; omega), World.cell?_alloc_lt _ _ _ hlt]; exact hg
  clear hg
  go_enter Tryz.func47, Tryz.ntmps47
  go_wp2
  refine wp_loop_rounds 1 ?_
  rw [rounds_succ]
  go_wp2
  go_ret
  exact ⟨rfl, rfl⟩

set_option maxHeartbeats 4000000 in
theorem as_hit (e t : Addr) (old : Value) (w : World) (hg : w.cell? ⟨10, 0, none⟩ = some (rtV 29)) (ht0 : w.cell? t = some old) (hf0 : w.frozen? t = false) :
    Calls Tryz.prog 47 #[ftV e, .iface 101 (.pointer (some t))] w fun ev w' => ev = .returned (.bool true) ∧ w' = ((asW t w).alloc (.cells #[.pointer (some e)] 68)).setCell t (.pointer (some e)) := by
  have hlt : 10 < w.heap.size := World.block_lt_of_cell? w _ hg
  have htl := World.block_lt_of_cell? w _ ht0
  have c1 := callValueOfPP
  have c2 := callTypePP
  have m1 := methodKind
  have c3 := callKindPP
  have c4 := callKindP
  have m2 := methodElem
  have m3 := methodImplements
  have m4 := methodAssignableTo
  have c5 := callElemPP
  have c6 := callImplementsP
  have c7 := callTypeOfP
  have c8 := callAssignableP
  have c9 := callValueOfP
  have n8 := callIsNilPP ⟨w.heap.size, 0, none⟩ t ((w.alloc (.cells #[.pointer (some t)] 101)).alloc (.cells #[hdl 101, .pointer (some ⟨w.heap.size, 0, none⟩), .int .u64 150] 128)) (by simp)
  have hg2 : ((w.alloc (.cells #[.pointer (some t)] 101)).alloc (.cells #[hdl 101, .pointer (some ⟨w.heap.size, 0, none⟩), .int .u64 150] 128)).cell? ⟨10, 0, none⟩ = some (rtV 29) := by
    rw [World.cell?_alloc_lt _ _ _ (by simp; omega), World.cell?_alloc_lt _ _ _ hlt]; exact hg
  have el := callElemVPP ⟨w.heap.size, 0, none⟩ t (((w.alloc (.cells #[.pointer (some t)] 101)).alloc (.cells #[hdl 101, .pointer (some ⟨w.heap.size, 0, none⟩), .int .u64 150] 128)).alloc (.cells #[hdl 101, .pointer (some ⟨w.heap.size, 0, none⟩), .int .u64 150] 128)) (by rw [World.cell?_alloc_lt _ _ ⟨w.heap.size, 0, none⟩ (by simp; omega)]; simp)
  have st := callSetP t ⟨w.heap.size + 1 + 1 + 1, 0, none⟩ e old ((((w.alloc (.cells #[.pointer (some t)] 101)).alloc (.cells #[hdl 101, .pointer (some ⟨w.heap.size, 0, none⟩), .int .u64 150] 128)).alloc (.cells #[hdl 101, .pointer (some ⟨w.heap.size, 0, none⟩), .int .u64 150] 128)).alloc (.cells #[.pointer (some e)] 68))
    (by rw [World.cell?_alloc_at _ _ _ _ (by simp)]; rfl)
    (by rw [World.cell?_alloc_lt _ _ t (by simp; omega), World.cell?_alloc_lt _ _ t (by simp; omega), World.cell?_alloc_lt _ _ t (by simp; omega), World.cell?_alloc_lt _ _ t htl]; exact ht0)
    (by rw [World.frozen?_alloc_old _ _ t (by simp; omega), World.frozen?_alloc_old _ _ t (by simp; omega), World.frozen?_alloc_old _ _ t (by simp; omega), World.frozen?_alloc_old _ _ t (Nat.ne_of_lt htl)]; exact hf0)
  clear hg ht0 hf0
  go_enter Tryz.func47, Tryz.ntmps47
  go_wp2
  refine wp_loop_rounds 1 ?_
  rw [rounds_succ]
  go_wp2
  go_ret
  exact ⟨rfl, rfl⟩
end Go.Proofs.YteifmgcbafemeaaGreatDoor
