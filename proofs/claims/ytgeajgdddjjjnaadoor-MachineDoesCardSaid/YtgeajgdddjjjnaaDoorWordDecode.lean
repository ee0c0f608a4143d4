/- Which instruction a word is: a contract of word.Decode, of any word. Conditions: the table of forms lies as the program lays it. -/
import Derived.Test.YtgeajgdddjjjnaaDoorWordDec
namespace Go.Proofs.YtgeajgdddjjjnaaDoor.WordP
set_option linter.unusedSimpArgs false
open Go.RowKit
set_option linter.unusedVariables false
def decVal (w : Int) : Value := match dec w with
  | some x => .tuple #[x.val, .nilIface]
  | none => .tuple #[inst 0 0 0 0 0, .iface 54 (.int .i64 3)]
theorem decVal_some {w : Int} {x : Ins} (h : dec w = some x) : decVal w = .tuple #[x.val, .nilIface] := by simp [decVal, h]
theorem decVal_none {w : Int} (h : dec w = none) : decVal w = .tuple #[inst 0 0 0 0 0, .iface 54 (.int .i64 3)] := by simp [decVal, h]
/-- Five numbers lie at the head of a block that may be written. -/
structure Five (W : World) (b : Nat) (a0 a1 a2 a3 a4 : Int) : Prop where
  c0 : W.cell? ⟨b, 0, none⟩ = some (.int .i64 a0)
  c1 : W.cell? ⟨b, 1, none⟩ = some (.int .i64 a1)
  c2 : W.cell? ⟨b, 2, none⟩ = some (.int .i64 a2)
  c3 : W.cell? ⟨b, 3, none⟩ = some (.int .i64 a3)
  c4 : W.cell? ⟨b, 4, none⟩ = some (.int .i64 a4)
  f : ∀ i, W.frozen? ⟨b, i, none⟩ = false
theorem Five.grown {W W' : World} {b : Nat} {a0 a1 a2 a3 a4 : Int} (h : Five W b a0 a1 a2 a3 a4) (g : Grown W W') : Five W' b a0 a1 a2 a3 a4 :=
  ⟨grown_cell g h.c0, grown_cell g h.c1, grown_cell g h.c2, grown_cell g h.c3, grown_cell g h.c4, fun i => (g.2.1 _).trans (h.f i)⟩
theorem five_new (W : World) (a0 a1 a2 a3 a4 : Int) (t : TypeId) : Five (W.alloc (.cells (instCells a0 a1 a2 a3 a4) t)) W.heap.size a0 a1 a2 a3 a4 := by
  refine ⟨?_, ?_, ?_, ?_, ?_, ?_⟩
  · exact World.cell?_alloc_new W _ _ 0
  · exact World.cell?_alloc_new W _ _ 1
  · exact World.cell?_alloc_new W _ _ 2
  · exact World.cell?_alloc_new W _ _ 3
  · exact World.cell?_alloc_new W _ _ 4
  · intro i; simp [go_sem]
theorem scan_step {w o : Int} (h : o ≤ 31) : scan w (32 - o).toNat o = if hit w o then some (ofWord w o) else scan w (32 - (o + 1)).toNat (o + 1) := by
  have e : (32 - o).toNat = (32 - (o + 1)).toNat + 1 := by omega
  rw [e]; rfl
theorem ret_dec {w : Int} {v : Value} (h : decVal w = v) : Ending.returned v = .returned (decVal w) := by rw [h]
set_option maxRecDepth 100000 in
set_option maxHeartbeats 1000000 in
theorem decode_walk (w : Int) (W : World) (hx : 0 ≤ w ∧ w < 4294967296) (hF : Forms W) :
    Calls Tryd.prog 10 #[.int .u32 w] W fun e W' => e = .returned (decVal w) ∧ Grown W W' := by
  have hG0 : Grown W (W.alloc (.cells (instCells 0 0 0 0 0) 23)) := (Grown.refl W).alloc _ _
  have h5 := five_new W 0 0 0 0 0 23
  obtain ⟨W0, hW0⟩ : ∃ W0, W0 = W.alloc (.cells (instCells 0 0 0 0 0) 23) := ⟨_, rfl⟩
  rw [← hW0] at h5 hG0
  have H5 := Lib.hid h5
  have HG := Lib.hid hG0
  have HF := Lib.hid (hF.grown hG0)
  have hmask : bits .and .u32 w 127 = w % 128 := and_mask _ 7 (by decide) _ (by decide)
  clear h5 hG0 hF
  go_enter Tryd.func10, Tryd.ntmps10
  go_wp2
  rw [← hW0]
  clear hW0
  go_loopw [4] (fun v wr => ∃ o : Int, (1 ≤ o ∧ o ≤ 32) ∧ v = .int .i64 o ∧ Hid (dec w = scan w (32 - o).toNat o) ∧ Hid (Grown W0 wr)) (fun v _ => (32 - intOf v).toNat)
  case atStart => exact ⟨1, by omega, rfl, Lib.hid rfl, Lib.hid (Grown.refl _)⟩
  case round =>
    obtain ⟨o, ho, rfl, hd, hg⟩ := hrel
    by_cases hlast : o = 32
    · subst hlast
      obtain ⟨c0, c1, c2, c3, c4, cf⟩ := H5.out.grown hg.out
      have hn : Hid (dec w = none) := Lib.hid (by rw [hd.out]; rfl)
      have hg' : Grown W wr := grown_trans HG.out hg.out
      go_wp2
      refine bodyPost_ret (v := .tuple #[inst 0 0 0 0 0, .iface 54 (.int .i64 3)]) ?_ rfl ⟨ret_dec (decVal_none hn.out), ?_⟩
      · simp [results, Tryd.results10, go_sem, c0, c1, c2, c3, c4]
      · repeat (first | (with_reducible refine Grown.setCell ?_ (Nat.le_refl _) _) | with_reducible exact hg')
    · have ho2 : o ≤ 31 := by omega
      obtain ⟨f0, f1, f2, f3⟩ := HF.out.grown hg.out o ho.1 ho2
      have hz := zero_lt f0
      have hp := past
      by_cases hlow : lowOf o = w % 128
      · have hl' : (lowOf o != w % 128) = false := by simpa using hlow
        have hn1 : Hid (like w o = likesB (kindOf o) w (midOf o) (highOf o)) := Lib.hid (by simp [like, hlow])
        clear hlow
        go_wp2_with fail
        refine (likes_any w _ _ _ _ _ hx).mono ?_
        rintro e w1 ⟨rfl, g1⟩
        have hg1 : Hid (Grown W0 w1) := Lib.hid (grown_trans (hg.out.alloc _ _) g1)
        cases hlk : likesB (kindOf o) w (midOf o) (highOf o)
        · have hn : Hid (hit w o = false) := Lib.hid (by simp [hit, hn1.out, hlk])
          go_wp2
          go_roundw
          case rel => exact ⟨o + 1, by omega, rfl, Lib.hid (by rw [hd.out, scan_step ho2, hn.out]; simp), hg1⟩
          case measure => simp [intOf]; omega
        · have hlike : Hid (like w o = true) := Lib.hid (by rw [hn1.out, hlk])
          go_wp2_with fail
          obtain ⟨X, hX⟩ : ∃ X, X = ofWord w o := ⟨_, rfl⟩
          obtain ⟨p, rd, ra, rb, n⟩ := X
          have HX := Lib.hid hX
          refine (with_ins w o _ hx ho.1 ho2 (HF.out.grown hg1.out)).mono ?_
          rintro e w2 ⟨rfl, g2⟩
          rw [← hX]
          clear hX
          have hg2 : Hid (Grown W0 w2) := Lib.hid (grown_trans hg1.out g2)
          have h6 := five_new w2 p rd ra rb n 23
          have hg3 : Hid (Grown W0 (w2.alloc (.cells (instCells p rd ra rb n) 23))) := Lib.hid (hg2.out.alloc _ _)
          simp only [Ins.val]
          go_wp2_with fail
          cases hr : (Ins.mk p rd ra rb n).right
          · have hn : Hid (hit w o = false) := Lib.hid (by simp [hit, ← HX.out, hr])
            refine (encode_no (Ins.mk p rd ra rb n) _ (HF.out.grown hg3.out) hr).mono ?_
            rintro e w3 ⟨rfl, g3⟩
            go_wp2
            go_roundw
            case rel => exact ⟨o + 1, by omega, rfl, Lib.hid (by rw [hd.out, scan_step ho2, hn.out]; simp), Lib.hid (grown_trans hg3.out g3)⟩
            case measure => simp [intOf]; omega
          · refine (encode_yes (Ins.mk p rd ra rb n) _ (HF.out.grown hg3.out) hr).mono ?_
            rintro e w3 ⟨rfl, g3⟩
            have hg4 : Hid (Grown W0 w3) := Lib.hid (grown_trans hg3.out g3)
            obtain ⟨y, hy⟩ : ∃ y, y = (Ins.mk p rd ra rb n).word := ⟨_, rfl⟩
            rw [← hy]
            have HY := Lib.hid hy
            clear hy
            by_cases hyw : y = w
            · have hq : (y == w) = true := by simpa using hyw
              have hn : Hid (dec w = some (Ins.mk p rd ra rb n)) := Lib.hid (by
                rw [hd.out, scan_step ho2]
                have : hit w o = true := by simp [hit, ← HX.out, hr, ← HY.out, hyw, hlike.out]
                rw [if_pos this, ← HX.out])
              clear hyw
              obtain ⟨d0, d1, d2, d3, d4, df⟩ := h6.grown g3
              obtain ⟨c0, c1, c2, c3, c4, cf⟩ := H5.out.grown hg4.out
              have hg' : Grown W w3 := grown_trans HG.out hg4.out
              go_wp2
              refine bodyPost_ret (v := .tuple #[inst p rd ra rb n, .nilIface]) ?_ rfl ⟨ret_dec (decVal_some hn.out), ?_⟩
              · simp [results, Tryd.results10, go_sem, c0, c1, c2, c3, c4]
              · repeat (first | (with_reducible refine Grown.setCell ?_ (Nat.le_refl _) _) | with_reducible exact hg')
            · have hq : (y == w) = false := by simpa using hyw
              have hn : Hid (hit w o = false) := Lib.hid (by simp [hit, ← HX.out, ← HY.out, hyw])
              clear hyw
              go_wp2
              go_roundw
              case rel => exact ⟨o + 1, by omega, rfl, Lib.hid (by rw [hd.out, scan_step ho2, hn.out]; simp), Lib.hid hg4.out⟩
              case measure => simp [intOf]; omega
      · have hl' : (lowOf o != w % 128) = true := by simpa using hlow
        have hn : Hid (hit w o = false) := Lib.hid (by simp [hit, like, hlow])
        clear hlow
        go_wp2
        go_roundw
        case rel => exact ⟨o + 1, by omega, rfl, Lib.hid (by rw [hd.out, scan_step ho2, hn.out]; simp), Lib.hid (by exact hg.out.alloc _ _)⟩
        case measure => simp [intOf]; omega
end Go.Proofs.YtgeajgdddjjjnaaDoor.WordP
