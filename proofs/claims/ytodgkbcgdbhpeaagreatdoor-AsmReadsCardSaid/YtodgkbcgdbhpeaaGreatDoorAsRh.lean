/- The law of the assembler's reading, walked: AsmReads. Conditions: the tables lie; Fine and errors.errorType lie; the instructions lie. -/
import Derived.Test.YtodgkbcgdbhpeaaGreatDoorAsRe
import Derived.Test.YtodgkbcgdbhpeaaGreatDoorAsRf
import Derived.Test.YtodgkbcgdbhpeaaGreatDoorAsRg
import Derived.Test.YtodgkbcgdbhpeaaGreatDoorRefEnc
import Derived.Test.YtodgkbcgdbhpeaaGreatDoorErrBare
import Derived.Deep.RegionWith
namespace Go.Proofs.YtodgkbcgdbhpeaaGreatDoor.AsmP
open Go.RowKit Go.Proofs.YtodgkbcgdbhpeaaGreatDoor.WordP Go.Proofs.YtodgkbcgdbhpeaaGreatDoor.Wo
set_option linter.unusedVariables false
set_option linter.unusedSimpArgs false
theorem out_len (ps : List (List UInt8 × Nat)) : (l : List (Ins × List UInt8 × Nat)) → (i : Nat) → (r : List Ins) → outR ps l i = .ok r → r.length = l.length
  | [], i, r, h => by simp only [outR] at h; cases h; rfl
  | y :: l, i, r, h => by
    rw [outR] at h
    cases ha : aimed ps y i with
    | error e => rw [ha] at h; cases h
    | ok x =>
      rw [ha] at h
      simp only at h
      cases hr : outR ps l (i + 1) with
      | error e => rw [hr] at h; cases h
      | ok q =>
        rw [hr] at h
        cases h
        have := out_len ps l (i + 1) q hr
        simp [this]
theorem asmR_len {s : List UInt8} {l : List Ins} (h : asmR s = .ok l) : l.length ≤ s.length + 1 := by
  unfold asmR at h
  cases hl : linesR (splitL 10 s) 0 ⟨[], []⟩ with
  | error e => rw [hl] at h; cases h
  | ok t =>
    rw [hl] at h
    have h1 := out_len _ _ _ _ h
    have h2 := (linesR_len _ _ _ _ hl).1
    have h3 := (splitL_len 10 s).2
    simp only [List.length_nil] at h2
    omega
/-- What both say of a text. -/
def AsmIs (s : List UInt8) (L : List Ins) (c a : Int) : Prop := (asmR s = .ok L ∧ c = 0 ∧ a = -1) ∨ ∃ p : Nat, asmR s = .error (c, p) ∧ a = p ∧ L = []
theorem row_none (W : World) : InsRow W (.slice none 0 0) [] := ⟨0, World.ownsRow_nil _ _ _ _⟩
theorem AsmB.one {s : List UInt8} {W w : World} {e : Ending} (h : AsmB s W e w) : ∃ L v c a, e = .returned (.tuple #[v, .agg #[.int .i64 c, .int .i64 a]]) ∧ InsRow w v L ∧ AsmIs s L c a ∧ Mods None W w := by
  unfold AsmB at h
  cases hs : asmR s with
  | ok l =>
    rw [hs] at h
    obtain ⟨⟨v, h1, h2⟩, h3⟩ := h
    exact ⟨l, v, 0, -1, h1, h2, .inl ⟨hs, rfl, rfl⟩, h3⟩
  | error e =>
    obtain ⟨c, p⟩ := e
    rw [hs] at h
    exact ⟨[], _, c, p, h.1, row_none _, .inr ⟨p, hs, rfl, rfl⟩, h.2⟩
theorem AsmA.one {s : List UInt8} {W w : World} {e : Ending} {L : List Ins} {c a : Int} (h : AsmA s W e w) (hi : AsmIs s L c a) : ∃ v ev, e = .returned (.tuple #[v, ev]) ∧ InsRow w v L ∧
    (∀ w', Mods None w w' → ErrP.ErrLaid w' → Calls Tryz.prog 14 #[ev, .agg #[.int .i64 c, .int .i64 a]] w' fun e w'' => e = .returned (.bool true) ∧ Mods None w' w'') ∧ Mods None W w := by
  unfold AsmA at h
  rcases hi with ⟨hs, rfl, rfl⟩ | ⟨p, hs, rfl, rfl⟩
  · rw [hs] at h
    obtain ⟨⟨v, h1, h2⟩, h3⟩ := h
    exact ⟨v, _, h1, h2, fun w' hm hE => (ErrP.is_nil 0 w'), h3⟩
  · rw [hs] at h
    obtain ⟨⟨g, h1, h2, h3⟩, h4⟩ := h
    exact ⟨_, _, h1, row_none _, fun w' hm hE => ErrP.is_at c p g w' hE (h3.mods hm (fun f => f)), h4⟩
/-- The fault so far. -/
def FltIs (l : List Ins) (i : Nat) (fe fp : Int) : Prop := ((∀ x ∈ l.take i, x.right = true) ∧ fe = 0 ∧ fp = -1) ∨ ∃ j : Nat, j < i ∧ badAt l j ∧ fe = 1 ∧ fp = j
theorem flt_yes {l : List Ins} {i : Nat} {fe fp : Int} {x : Ins} (h : FltIs l i fe fp) (hx : l[i]? = some x) (hr : x.right = true) : FltIs l (i + 1) fe fp := by
  rcases h with ⟨h1, h2, h3⟩ | ⟨j, h1, h2⟩
  · refine .inl ⟨fun y hy => ?_, h2, h3⟩
    rw [List.take_add_one, hx] at hy
    rcases List.mem_append.1 hy with hy | hy
    · exact h1 y hy
    · simp only [Option.toList_some, List.mem_singleton] at hy
      rw [hy]; exact hr
  · exact .inr ⟨j, by omega, h2⟩
theorem flt_new {l : List Ins} {i : Nat} {x : Ins} (h : ∀ y ∈ l.take i, y.right = true) (hx : l[i]? = some x) (hr : x.right = false) : FltIs l (i + 1) 1 (i : Int) := .inr ⟨i, by omega, ⟨h, x, hx, hr⟩, rfl, rfl⟩
theorem flt_old {l : List Ins} {i j : Nat} (h : j < i) (hb : badAt l j) : FltIs l (i + 1) 1 (j : Int) := .inr ⟨j, by omega, hb, rfl, rfl⟩
theorem bad_one {l : List Ins} {i j : Nat} (h : badAt l i) (k : badAt l j) : i = j := by
  obtain ⟨h1, x, h2, h3⟩ := h
  obtain ⟨k1, y, k2, k3⟩ := k
  rcases Nat.lt_trichotomy i j with f | f | f
  · have := k1 x (List.mem_of_getElem? (i := i) (by rw [List.getElem?_take_of_lt f]; exact h2))
    rw [h3] at this; cases this
  · exact f
  · have := h1 y (List.mem_of_getElem? (i := j) (by rw [List.getElem?_take_of_lt f]; exact k2))
    rw [k3] at this; cases this
theorem bad_not {l : List Ins} {i : Nat} (h : ∀ x ∈ l, x.right = true) (k : badAt l i) : False := by
  obtain ⟨-, y, k2, k3⟩ := k
  rw [h y (List.mem_of_getElem? k2)] at k3
  cases k3
/-- The reference's words. -/
def refRow (l : List Ins) : List Value := l.map fun x => .int .u32 (if x.right = true then x.word else 0)
theorem refRow_all {l : List Ins} (h : ∀ x ∈ l, x.right = true) : refRow l = wordsRow l := by
  unfold refRow wordsRow
  exact List.map_congr_left (fun x hx => by rw [if_pos (h x hx)])
theorem refRow_next {l : List Ins} {i : Nat} {x : Ins} (hx : l[i]? = some x) : refRow (l.take (i + 1)) = refRow (l.take i) ++ [.int .u32 (if x.right = true then x.word else 0)] := by
  unfold refRow
  rw [List.take_add_one, hx]
  simp
end Go.Proofs.YtodgkbcgdbhpeaaGreatDoor.AsmP
