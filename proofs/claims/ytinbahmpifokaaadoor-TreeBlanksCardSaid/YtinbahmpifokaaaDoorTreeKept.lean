/- The kept words: the map of them. No conditions. -/
import Derived.Test.YtinbahmpifokaaaDoorTreeAt
import Derived.Maps.OwnSet
import Derived.StringKeys
namespace Go.Proofs.YtinbahmpifokaaaDoor.TreeP
open Go.RowKit Go.Proofs.YtinbahmpifokaaaDoor.Wo Go.Maps
set_option linter.unusedVariables false
set_option linter.unusedSimpArgs false
theorem strKeys : Keyed Tryd.prog 9 := string_keyed Tryd.underlying9
theorem zeroInt (w : World) : (zeroValue 3).run Tryd.prog w = .ok (.int .i64 0) w := by kernel_rfl
theorem keyStr {s : List UInt8} (hs : s.length ≤ 10000000) : keyOf Tryd.prog 9 (str s) = some (.string s) := by
  have := WideMaps.keyOf_string_mk (P := Tryd.prog) Tryd.underlying9 (s := ⟨s.toArray⟩) (by
    show s.toArray.size ≤ maxLen
    rw [List.size_toArray]
    exact Nat.le_trans hs (by decide))
  exact this
/-- A map that holds these texts. -/
def SetIs (W : World) (bm n : Nat) (l : List (List UInt8)) : Prop :=
  ∃ D : DataW Unit, W.ownsMap Tryd.prog 9 (plainElem Tryd.prog 3) bm n D ∧ IsMap D ∧ ∀ s : List UInt8, has D (.string s) = l.contains s
theorem SetIs.new (W : World) : SetIs (W.alloc (.map #[] 0)) W.heap.size 0 [] :=
  ⟨_, World.ownsMap_made _ _ _ _, ⟨_, rfl⟩, fun s => rfl⟩
theorem SetIs.put {W : World} {bm n : Nat} {l : List (List UInt8)} (h : SetIs W bm n l) (a : List UInt8) (ha : a.length ≤ 10000000) (hn : n < maxLen) :
    ∃ w', (Instr.mapUpdate 120 (.map (some bm)) (str a) (.int .i64 1)).run Tryd.prog W = .ok () w' ∧ SetIs w' bm (n + 1) (a :: l) ∧ Mods (· = bm) W w' := by
  obtain ⟨D, h1, h0, h2⟩ := h
  obtain ⟨w', hr, ho, hg⟩ := h1.update strKeys Tryd.underlying120 hn (keyStr ha) (plainElem_int (H := Unit) (a := 1) Tryd.underlying3 (by decide))
  refine ⟨w', hr, ⟨_, ho, (ho.tidy strKeys).isMap, fun s => ?_⟩, Mods.of_grownBy hg (fun k hk _ => by cases hk; rfl)⟩
  by_cases hx : s = a
  · subst hx
    rw [has_put_same h0 (by trivial)]
    simp
  · rw [has_put_other (by simpa using hx), h2 s]
    simp [hx]
theorem SetIs.look {W : World} {bm n : Nat} {l : List (List UInt8)} (h : SetIs W bm n l) (s : List UInt8) (hs : s.length ≤ 10000000) :
    ∃ v, (Instr.lookup 120 (.map (some bm)) (str s) true).run Tryd.prog W = .ok (.tuple #[v, .bool (l.contains s)]) W := by
  obtain ⟨D, h1, h0, h2⟩ := h
  obtain ⟨v, ps, hr, hv⟩ := h1.look_ok strKeys Tryd.underlying120 (zeroInt _) (plainElem_int (H := Unit) Tryd.underlying3 (a := 0) (by decide)) (keyStr hs)
  exact ⟨v, by rw [← h2 s]; exact hr⟩
set_option maxRecDepth 100000 in
theorem kept_any (s : List UInt8) (W : World) (hs : s.length ≤ 10000000) :
    Calls Tryd.prog 35 #[str s] W fun e W' => e = .returned (.bool (keptB s)) ∧ Mods None W W' := by
  have hmm := @run_makeMap Tryd.prog
  have H0 := SetIs.new W
  obtain ⟨w0, hr0, H1, hm0⟩ := H0.put [102, 110] (by decide) (by decide)
  obtain ⟨w1, hr1, H2, hm1⟩ := H1.put [118, 97, 114] (by decide) (by decide)
  obtain ⟨w2, hr2, H3, hm2⟩ := H2.put [105, 102] (by decide) (by decide)
  obtain ⟨w3, hr3, H4, hm3⟩ := H3.put [101, 108, 115, 101] (by decide) (by decide)
  obtain ⟨w4, hr4, H5, hm4⟩ := H4.put [119, 104, 105, 108, 101] (by decide) (by decide)
  obtain ⟨w5, hr5, H6, hm5⟩ := H5.put [114, 101, 116, 117, 114, 110] (by decide) (by decide)
  obtain ⟨w6, hr6, H7, hm6⟩ := H6.put [112, 114, 105, 110, 116] (by decide) (by decide)
  obtain ⟨w7, hr7, H8, hm7⟩ := H7.put [110, 101, 119] (by decide) (by decide)
  obtain ⟨w8, hr8, H9, hm8⟩ := H8.put [108, 101, 110] (by decide) (by decide)
  obtain ⟨w9, hr9, H10, hm9⟩ := H9.put [105, 110, 112, 117, 116] (by decide) (by decide)
  obtain ⟨w10, hr10, H11, hm10⟩ := H10.put [105, 110, 116] (by decide) (by decide)
  obtain ⟨w11, hr11, H12, hm11⟩ := H11.put [97, 114, 114] (by decide) (by decide)
  obtain ⟨v, hl⟩ := H12.look s hs
  have hk : keptB s = List.contains [[97, 114, 114], [105, 110, 116], [105, 110, 112, 117, 116], [108, 101, 110], [110, 101, 119], [112, 114, 105, 110, 116], [114, 101, 116, 117, 114, 110], [119, 104, 105, 108, 101], [101, 108, 115, 101], [105, 102], [118, 97, 114], [102, 110]] s := by
    exact (List.contains_reverse (l := keptList) (x := s)).symm
  have hM : Mods None W w11 := by
    have h0 : Mods (· = W.heap.size) (W.alloc (.map #[] 0)) w11 := (((((((((((hm0).trans hm1).trans hm2).trans hm3).trans hm4).trans hm5).trans hm6).trans hm7).trans hm8).trans hm9).trans hm10).trans hm11
    exact ((Mods.refl None W).alloc _).trans' h0 (fun i e hi => absurd hi (by rw [e]; exact Nat.lt_irrefl _))
  rw [← hk] at hl
  unfold str at *
  clear H0
  clear H1
  clear H2
  clear H3
  clear H4
  clear H5
  clear H6
  clear H7
  clear H8
  clear H9
  clear H10
  clear H11
  clear H12 hk
  go_enter Tryd.func35, Tryd.ntmps35
  go_wp2
  go_ret
  exact ⟨rfl, hM⟩
end Go.Proofs.YtinbahmpifokaaaDoor.TreeP
