/- The closure that catches what the reader throws. No conditions. -/
import Derived.Test.YtinbahmpifokaaaDoorTreeFn
import Derived.Defers
import Derived.Recover
namespace Go.Proofs.YtinbahmpifokaaaDoor.TreeP
open Go.RowKit Go.Proofs.YtinbahmpifokaaaDoor.Wo
set_option linter.unusedVariables false
set_option linter.unusedSimpArgs false
theorem catch_idle (p q : Addr) (w : World) :
    CallsD Tryd.prog 11 #[.pointer (some p), .pointer (some q)] .returning w fun e u' w' => e = .returned (.tuple #[]) ∧ u' = .returning ∧ w' = w := by
  refine callsD_of_wpS Tryd.func11 rfl fun c₀ cs hu => ?_
  apply wpS_seq
  apply wpS_region
  simp [wpOpsS, go_sem, recoverD, hu, Tryd.ntmps11, Exit.thenS]
  refine wpS_of_wp ?_
  change Code.wp _ _ _ { tmps := #[.pointer (some p), .pointer (some q), .nilIface, undef, undef, .nilIface, undef, undef, undef, undef, undef, undef, undef, undef, undef, undef, undef, undef], defers := [] } w
  go_wp2
  cases c₀
  simp_all [bodyPostS, results, Tryd.results11]
theorem is_wrong (v : Value) (w : World) : Sem.run Tryd.prog (Instr.typeAssert (.iface 38 v) 20 38 true) w = .ok (.tuple #[v, .bool true]) w := by
  simp [Instr.typeAssert, run_underlying Tryd.underlying38]
set_option maxRecDepth 100000 in
theorem catch_thrown (p q g : Nat) (hpq : p ≠ q) (vp vq : Value) (older : List PanicEntry) (w : World) (hp : w.cell? ⟨p, 0, none⟩ = some vp) (hq : w.cell? ⟨q, 0, none⟩ = some vq) (fp : w.frozen? ⟨p, 0, none⟩ = false) (fq : w.frozen? ⟨q, 0, none⟩ = false) :
    CallsD Tryd.prog 11 #[.pointer (some ⟨p, 0, none⟩), .pointer (some ⟨q, 0, none⟩)] (.panicking ({ v := wrongV g, recovered := false } :: older)) w fun e u' w' =>
      e = .returned (.tuple #[]) ∧ u' = .panicking ({ v := wrongV g, recovered := true } :: older) ∧ w' = (((w.setCell ⟨p, 0, none⟩ (.slice none 0 0)).setCell ⟨q, 0, none⟩ (.iface 72 (.pointer (some ⟨g, 0, none⟩)))).alloc (.cells #[.iface 72 (.pointer (some ⟨g, 0, none⟩))] 38)).drew := by
  refine callsD_of_wpS Tryd.func11 rfl fun c₀ cs hu => ?_
  apply wpS_seq
  apply wpS_region
  unfold wrongV at hu
  simp [wpOpsS, go_sem, recoverD, hu, Tryd.ntmps11, Exit.thenS]
  refine wpS_of_wp ?_
  change Code.wp _ _ _ { tmps := #[.pointer (some ⟨p, 0, none⟩), .pointer (some ⟨q, 0, none⟩), .iface 38 (.agg #[.iface 72 (.pointer (some ⟨g, 0, none⟩))]), undef, undef, .iface 38 (.agg #[.iface 72 (.pointer (some ⟨g, 0, none⟩))]), undef, undef, undef, undef, undef, undef, undef, undef, undef, undef, undef, undef], defers := [] } w
  have hta := is_wrong (.agg #[.iface 72 (.pointer (some ⟨g, 0, none⟩))]) w
  have hlp : p < w.heap.size := World.block_lt_of_cell? w _ hp
  have hlq : q < w.heap.size := World.block_lt_of_cell? w _ hq
  go_wp2_with fail
  go_region
  clear hta hlp hlq hp hq fp fq
  change bodyPostS Tryd.prog Tryd.f11 c₀ cs _ _ _ _ _
  cases c₀
  simp_all [bodyPostS, results, Tryd.results11, wrongV]
end Go.Proofs.YtinbahmpifokaaaDoor.TreeP
