/- A name is taken. No conditions. -/
import Derived.Test.YtinbahmpifokaaaDoorTreeAt
import Derived.Test.YtinbahmpifokaaaDoorTreeKept
namespace Go.Proofs.YtinbahmpifokaaaDoor.TreeP
open Go.RowKit Go.Proofs.YtinbahmpifokaaaDoor.Wo
set_option linter.unusedVariables false
set_option linter.unusedSimpArgs false
/-- A part of the reader has come to this. -/
def Got {α : Type} (S : Nat → Prop) (W : World) (b : Nat) (V : α → Value → World → Prop) : PR α → Ending → World → Prop
  | none => fun _ _ => True
  | some (.error (n, a)) => Threw S W n a
  | some (.ok (v, ts)) => fun e W' => ∃ x, e = .returned x ∧ V v x W' ∧ Par W' b ts ∧ Mods S W W'
theorem PAt.more {W : World} {b g o c : Nat} {t : Tok} {r : List Tok} (h : PAt W b g o c (t :: r)) (hk : t.kind ≠ 4) : 1 ≤ r.length := by
  have := (h.ends.tail hk).ne
  cases r with
  | nil => exact absurd rfl this
  | cons _ _ => simp
set_option maxRecDepth 100000 in
theorem name_any (b : Nat) (ts : List Tok) (W : World) (h : Par W b ts) :
    Calls Tryd.prog 22 #[.pointer (some ⟨b, 0, none⟩)] W (Got (· = b) W b (fun s x _ => x = str s) (nameP ts)) := by
  have HF := fun (n : Int) (W1 : World) (h1 : Par W1 b ts) => fail_any b n ts W1 h1
  obtain ⟨g, o, c, h⟩ := h
  obtain ⟨t, r, rfl⟩ := ends_cons h.ends
  have hl := h.cl
  have hk := h.ck
  have ht := h.ct
  have ha := h.ca
  have hcap := h.cap
  have hmax := h.max
  have hs := h.small t List.mem_cons_self
  simp only [List.length_cons] at hcap
  have HK := fun (W1 : World) => kept_any t.text W1 hs
  have HP := Lib.hid h
  obtain ⟨tk, tt, ta⟩ := t
  simp only at hk ht hs HK
  unfold str at *
  have HN : nameP (⟨tk, tt, ta⟩ :: r) = if tk != 1 || keptB tt then failP 3 (⟨tk, tt, ta⟩ :: r) else if 12 < tt.length then failP 4 (⟨tk, tt, ta⟩ :: r) else okP tt r := rfl
  rw [HN]
  clear h HN
  have step : ∀ (e : Ending) (W2 : World) (n : Int) (W1 : World), Mods None W W1 → Threw None W1 n (headAt (⟨tk, tt, ta⟩ :: r)) e W2 → Threw (· = b) W n (headAt (⟨tk, tt, ta⟩ :: r)) e W2 := fun e W2 n W1 hm ht => (ht.after hm).mono fun k hk => hk.elim
  have HPM := fun (W1 : World) (hm : Mods None W W1) => (⟨g, o, c, HP.out.mods hm (fun f => f) (fun f => f)⟩ : Par W1 b (⟨tk, tt, ta⟩ :: r))
  by_cases h1 : tk = 1
  · subst h1
    cases h2 : keptB tt
    · by_cases h3 : 12 < tt.length
      · rw [if_neg (by simp), if_pos h3]
        go_enter Tryd.func22, Tryd.ntmps22
        go_wp2_with (first | (go_at_call 35; refine (HK _).mono ?_; rintro e w' ⟨rfl, hm⟩; have B := (Blk.new W #[.int .i64 1, .string ⟨tt.toArray⟩, .int .i64 ta] 47).mods hm (fun f => f); have hM := ((Mods.refl None W).alloc _).trans hm; have c1 := B.cell (i := 1) rfl; have hl2 := hM.cellOf hl (fun f => f); have hf2 := (HP.out.blk.mods hM (fun f => f)).free 0) | (go_at_call 13; refine (HF _ _ (HPM _ (by first | assumption | exact (Mods.refl None W).alloc _))).mono ?_; rintro e w2 ⟨g2, rfl, hb, hm2⟩))
        exact ⟨rfl, step _ _ _ _ hM ⟨g2, rfl, hb, hm2⟩⟩
      · rw [if_neg (by simp), if_neg h3]
        have hr : 1 ≤ r.length := HP.out.more (by simp)
        go_enter Tryd.func22, Tryd.ntmps22
        go_wp2_with (first | (go_at_call 35; refine (HK _).mono ?_; rintro e w' ⟨rfl, hm⟩; have B := (Blk.new W #[.int .i64 1, .string ⟨tt.toArray⟩, .int .i64 ta] 47).mods hm (fun f => f); have hM := ((Mods.refl None W).alloc _).trans hm; have c1 := B.cell (i := 1) rfl; have hl2 := hM.cellOf hl (fun f => f); have hf2 := (HP.out.blk.mods hM (fun f => f)).free 0) | (go_at_call 13; refine (HF _ _ (HPM _ (by first | assumption | exact (Mods.refl None W).alloc _))).mono ?_; rintro e w2 ⟨g2, rfl, hb, hm2⟩))
        go_ret
        exact ⟨_, rfl, rfl, ⟨_, _, _, (HP.out.mods hM (fun f => f) (fun f => f)).tail (by simp)⟩, Mods.setCell (S := (· = b)) (p := ⟨b, 0, none⟩) (hM.mono fun _ _ f => f.elim) (fun _ => rfl) _⟩
    · rw [if_pos (by simp)]
      go_enter Tryd.func22, Tryd.ntmps22
      go_wp2_with (first | (go_at_call 35; refine (HK _).mono ?_; rintro e w' ⟨rfl, hm⟩; have B := (Blk.new W #[.int .i64 1, .string ⟨tt.toArray⟩, .int .i64 ta] 47).mods hm (fun f => f); have hM := ((Mods.refl None W).alloc _).trans hm; have c1 := B.cell (i := 1) rfl; have hl2 := hM.cellOf hl (fun f => f); have hf2 := (HP.out.blk.mods hM (fun f => f)).free 0) | (go_at_call 13; refine (HF _ _ (HPM _ (by first | assumption | exact (Mods.refl None W).alloc _))).mono ?_; rintro e w2 ⟨g2, rfl, hb, hm2⟩))
      exact ⟨rfl, step _ _ _ _ hM ⟨g2, rfl, hb, hm2⟩⟩
  · rw [if_pos (by simp [h1])]
    go_enter Tryd.func22, Tryd.ntmps22
    go_wp2_with (first | (go_at_call 35; refine (HK _).mono ?_; rintro e w' ⟨rfl, hm⟩; have B := (Blk.new W #[.int .i64 1, .string ⟨tt.toArray⟩, .int .i64 ta] 47).mods hm (fun f => f); have hM := ((Mods.refl None W).alloc _).trans hm; have c1 := B.cell (i := 1) rfl; have hl2 := hM.cellOf hl (fun f => f); have hf2 := (HP.out.blk.mods hM (fun f => f)).free 0) | (go_at_call 13; refine (HF _ _ (HPM _ (by first | assumption | exact (Mods.refl None W).alloc _))).mono ?_; rintro e w2 ⟨g2, rfl, hb, hm2⟩))
    exact ⟨rfl, step _ _ _ _ ((Mods.refl None W).alloc _) ⟨g2, rfl, hb, hm2⟩⟩
end Go.Proofs.YtinbahmpifokaaaDoor.TreeP
