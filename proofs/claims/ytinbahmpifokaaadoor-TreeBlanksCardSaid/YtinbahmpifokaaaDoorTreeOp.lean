/- The marks of a level: which one comes next. Conditions: that the levels lie as the program lays them. -/
import Derived.Test.YtinbahmpifokaaaDoorTreeName
namespace Go.Proofs.YtinbahmpifokaaaDoor.TreeP
open Go.RowKit Go.Proofs.YtinbahmpifokaaaDoor.Wo
set_option linter.unusedVariables false
set_option linter.unusedSimpArgs false
/-- The levels lie, apart from a block. -/
def Levels (W : World) (b : Nat) : Prop :=
  2 < b ∧ ∀ (i : Nat) (l : List (List UInt8)), levelList[i]? = some l → ∃ p o c, W.cell? ⟨2, i, none⟩ = some (.slice (some ⟨p, o, none⟩) l.length c) ∧ l.length ≤ c ∧ c ≤ 100000 ∧ p < b ∧ ∀ (j : Nat) (m : List UInt8), l[j]? = some m → W.cell? ⟨p, o + j, none⟩ = some (str m)
theorem Levels.far {W W' : World} {b : Nat} {T : Nat → Prop} (h : Levels W b) (hm : Mods T W W') (hT : ∀ k, T k → b ≤ k) : Levels W' b := by
  refine ⟨h.1, fun i l hl => ?_⟩
  obtain ⟨p, o, c, h1, h2, h3, h4, h5⟩ := h.2 i l hl
  exact ⟨p, o, c, hm.cellOf h1 (fun f => Nat.lt_irrefl _ (Nat.lt_of_lt_of_le h.1 (hT _ f))), h2, h3, h4, fun j m hj => hm.cellOf (h5 j m hj) (fun f => Nat.lt_irrefl _ (Nat.lt_of_lt_of_le h4 (hT _ f)))⟩
theorem Levels.mods {W W' : World} {b : Nat} (h : Levels W b) (hm : Mods (· = b) W W') : Levels W' b := h.far hm (fun k hk => Nat.le_of_eq hk.symm)
/-- The error of a number that is too great lies. -/
def RangeAt (W : World) (b : Nat) : Prop := 8 < b ∧ ∃ t p, W.cell? ⟨8, 0, none⟩ = some (.iface t p)
theorem RangeAt.far {W W' : World} {b : Nat} {T : Nat → Prop} (h : RangeAt W b) (hm : Mods T W W') (hT : ∀ k, T k → b ≤ k) : RangeAt W' b := by
  obtain ⟨h1, t, p, h2⟩ := h
  exact ⟨h1, t, p, hm.cellOf h2 (fun f => Nat.lt_irrefl _ (Nat.lt_of_lt_of_le h1 (hT _ f)))⟩
set_option maxRecDepth 100000 in
theorem op_any (b level : Nat) (ts : List Tok) (W : World) (h : Par W b ts) (hL : Levels W b) (hl : level < 6) :
    Calls Tryd.prog 53 #[.pointer (some ⟨b, 0, none⟩), .int .i64 level] W fun e W' => e = .returned (str (opP level ts)) ∧ W = W' := by
  have HS := fun (m : List UInt8) => see_any b m ts W h
  obtain ⟨l, hl1⟩ : ∃ l, levelList[level]? = some l := ⟨levelList[level], List.getElem?_eq_getElem (by exact hl)⟩
  have hop : opP level ts = (l.find? (fun m => seeB m ts)).getD [] := by
    unfold opP
    rw [List.getD_eq_getElem?_getD, hl1]; rfl
  rw [hop]
  obtain ⟨p, o, c, h1, h2, h3, _, h5⟩ := hL.2 level l hl1
  have HC := Lib.hid h5
  clear h hL hop hl1 h5
  unfold str at *
  go_enter Tryd.func53, Tryd.ntmps53
  go_wp2
  go_loopw [11] (fun v wr => ∃ i : Nat, i ≤ l.length ∧ v = .int .i64 i ∧ Hid ((l.drop i).find? (fun m => seeB m ts) = l.find? (fun m => seeB m ts)) ∧ Hid (W = wr)) (fun v _ => (l.length - intOf v).toNat)
  case atStart => exact ⟨0, Nat.zero_le _, rfl, Lib.hid (by first | trivial | rfl), Lib.hid (by first | trivial | rfl)⟩
  case round =>
    obtain ⟨i, hi, rfl, heq, hq⟩ := hrel
    obtain rfl := hq.out
    by_cases hlt : i < l.length
    · obtain ⟨m, hm⟩ : ∃ m, m = l[i] := ⟨_, rfl⟩
      have hd : l.drop i = m :: l.drop (i + 1) := by rw [hm]; exact List.drop_eq_getElem_cons hlt
      have hc := HC.out i m (by rw [hm]; exact List.getElem?_eq_getElem hlt)
      have H := HS m
      cases hs : seeB m ts
      · have hnext : Hid ((l.drop (i + 1)).find? (fun m => seeB m ts) = l.find? (fun m => seeB m ts)) := Lib.hid (by
          rw [← heq.out, hd, List.find?_cons, hs])
        rw [hs] at H
        have H' := Lib.hid H
        clear hm hd hs H
        go_wp2_with (go_at_call 36; refine H'.out.mono ?_; rintro e w' ⟨rfl, rfl⟩)
        go_roundw
        case rel => exact ⟨i + 1, by omega, by go_num, hnext, Lib.hid (by first | trivial | rfl)⟩
        case measure => simp [intOf]; omega
      · have hfin : Hid ((l.find? (fun m => seeB m ts)).getD [] = m) := Lib.hid (by
          rw [← heq.out, hd, List.find?_cons, hs]; rfl)
        rw [hs] at H
        have H' := Lib.hid H
        clear hm hd hs H
        go_wp2_with (go_at_call 36; refine H'.out.mono ?_; rintro e w' ⟨rfl, rfl⟩)
        go_ret
        rw [hfin.out]
        exact ⟨rfl, rfl⟩
    · obtain rfl : i = l.length := by omega
      have hfin : Hid ((l.find? (fun m => seeB m ts)).getD [] = []) := Lib.hid (by
        rw [← heq.out, List.drop_length]; rfl)
      go_wp2
      go_ret
      rw [hfin.out]
      exact ⟨rfl, rfl⟩
end Go.Proofs.YtinbahmpifokaaaDoor.TreeP
