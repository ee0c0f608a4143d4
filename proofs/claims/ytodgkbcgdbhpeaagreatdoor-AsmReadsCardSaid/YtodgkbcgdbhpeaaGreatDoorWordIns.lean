/- Instructions, whole; word.Right and word.Encode of any of them. Conditions: the table of forms lies as the program lays it. -/
import Derived.Test.YtodgkbcgdbhpeaaGreatDoorWordEnc
namespace Go.Proofs.YtodgkbcgdbhpeaaGreatDoor.WordP
set_option linter.unusedSimpArgs false
open Go.RowKit
set_option linter.unusedVariables false

def kinds : List Int := [0, 82, 82, 82, 82, 82, 82, 82, 82, 82, 82, 82, 82, 82, 73, 73, 73, 73, 73, 72, 72, 72, 73, 73, 83, 66, 66, 66, 66, 85, 74, 69]
def lows : List Int := [0, 51, 51, 51, 51, 51, 51, 51, 51, 51, 51, 51, 51, 51, 19, 19, 19, 19, 19, 19, 19, 19, 3, 103, 35, 99, 99, 99, 99, 55, 111, 115]
def mids : List Int := [0, 0, 0, 0, 4, 6, 7, 6, 4, 2, 3, 1, 5, 5, 0, 7, 6, 4, 2, 1, 5, 5, 3, 0, 3, 0, 1, 4, 5, 0, 0, 0]
def highs : List Int := [0, 0, 32, 1, 1, 1, 0, 0, 0, 0, 0, 0, 0, 32, 0, 0, 0, 0, 0, 0, 0, 32, 0, 0, 0, 0, 0, 0, 0, 0, 0, 0]
def kindOf (op : Int) : Int := kinds.getD op.toNat 0
def lowOf (op : Int) : Int := lows.getD op.toNat 0
def midOf (op : Int) : Int := mids.getD op.toNat 0
def highOf (op : Int) : Int := highs.getD op.toNat 0

structure Ins where
  op : Int
  rd : Int
  ra : Int
  rb : Int
  n : Int
  deriving DecidableEq
def Ins.val (x : Ins) : Value := inst x.op x.rd x.ra x.rb x.n
def Ins.right (x : Ins) : Bool := rightB (kindOf x.op) x.op x.rd x.ra x.rb x.n
def Ins.word (x : Ins) : Int := rawE (kindOf x.op) x.rd x.ra x.rb x.n (lowOf x.op) (midOf x.op) (highOf x.op)
structure TabOk (k l m h : Int) : Prop where
  hl : 0 ≤ l ∧ l < 128
  hm : 0 ≤ m ∧ m < 8
  hh : 0 ≤ h ∧ h < 128
  hz : k = 85 ∨ k = 74 ∨ k = 69 → m = 0
  he : k = 72 → h % 2 = 0
theorem tabB : ∀ i : Fin 32, (0 ≤ lowOf i.val ∧ lowOf i.val < 128) ∧ (0 ≤ midOf i.val ∧ midOf i.val < 8) ∧ (0 ≤ highOf i.val ∧ highOf i.val < 128) ∧ (kindOf i.val = 85 ∨ kindOf i.val = 74 ∨ kindOf i.val = 69 → midOf i.val = 0) ∧ (kindOf i.val = 72 → highOf i.val % 2 = 0) ∧
    (1 ≤ i.val → kindOf i.val = 82 ∨ kindOf i.val = 73 ∨ kindOf i.val = 72 ∨ kindOf i.val = 83 ∨ kindOf i.val = 66 ∨ kindOf i.val = 85 ∨ kindOf i.val = 74 ∨ (kindOf i.val = 69 ∧ i.val = 31)) := by decide +kernel
theorem tab_ok (op : Int) (h1 : 1 ≤ op) (h2 : op ≤ 31) : TabOk (kindOf op) (lowOf op) (midOf op) (highOf op) ∧ KindOk op (kindOf op) := by
  obtain ⟨i, rfl⟩ := Int.eq_ofNat_of_zero_le (show 0 ≤ op by omega)
  obtain ⟨a, b, c, d, e, f⟩ := tabB ⟨i, by omega⟩
  refine ⟨⟨a, b, c, d, e⟩, ?_⟩
  rcases f (by show 1 ≤ i; omega) with f | f | f | f | f | f | f | ⟨f, g⟩
  · exact .inl f
  · exact .inr (.inl f)
  · exact .inr (.inr (.inl f))
  · exact .inr (.inr (.inr (.inl f)))
  · exact .inr (.inr (.inr (.inr (.inl f))))
  · exact .inr (.inr (.inr (.inr (.inr (.inl f)))))
  · exact .inr (.inr (.inr (.inr (.inr (.inr (.inl f))))))
  · exact .inr (.inr (.inr (.inr (.inr (.inr (.inr ⟨f, by have : i = 31 := g; omega⟩))))))

theorem regB_iff {n : Int} : regB n = true ↔ 0 ≤ n ∧ n < 32 := by simp [regB]
theorem right_parts {x : Ins} (h : x.right = true) : (1 ≤ x.op ∧ x.op ≤ 31) ∧ (0 ≤ x.rd ∧ x.rd < 32) ∧ (0 ≤ x.ra ∧ x.ra < 32) ∧ (0 ≤ x.rb ∧ x.rb < 32) ∧ bodyB (kindOf x.op) x.rd x.ra x.rb x.n = true := by
  simp only [Ins.right, rightB, Bool.and_eq_true, decide_eq_true_eq, regB_iff] at h
  exact ⟨⟨h.1.1.1.1.1, h.1.1.1.1.2⟩, h.1.1.1.2, h.1.1.2, h.1.2, h.2⟩
/-- The table of forms lies as the program lays it. -/
def Forms (W : World) : Prop := ∀ op : Int, 1 ≤ op → op ≤ 31 → FormAt W op (kindOf op) (lowOf op) (midOf op) (highOf op)
theorem grown_cell {W W' : World} (h : Grown W W') {a : Addr} {v : Value} (ha : W.cell? a = some v) : W'.cell? a = some v := by
  obtain ⟨⟨_, _, hk⟩, _, _⟩ := h
  have hb := World.block_lt_of_cell? W a ha
  have h1 := hk a.block hb
  unfold World.cell? at ha ⊢
  cases e1 : W.heap[a.block]? with
  | none => rw [e1] at ha; cases ha
  | some o =>
    rw [e1] at ha h1
    cases o with
    | cells c t fr =>
      cases e2 : W'.heap[a.block]? with
      | none => rw [e2] at h1; cases h1
      | some o' =>
        rw [e2] at h1
        cases o' with
        | cells c' t' fr' =>
          simp only at h1 ha ⊢
          obtain ⟨_, _, _, hj⟩ := h1
          split at ha
          · cases ha
          · rename_i hs; rw [if_neg hs, hj _ (fun f => f.elim)]; exact ha
        | _ => simp at h1
    | _ => simp at ha
theorem FormAt.grown {W W' : World} {op k l m h : Int} (hf : FormAt W op k l m h) (hg : Grown W W') : FormAt W' op k l m h :=
  ⟨grown_cell hg hf.c0, grown_cell hg hf.c1, grown_cell hg hf.c2, grown_cell hg hf.c3⟩
theorem Forms.grown {W W' : World} (hf : Forms W) (hg : Grown W W') : Forms W' := fun op h1 h2 => (hf op h1 h2).grown hg
theorem grown_trans {w w1 w2 : World} (h : Grown w w1) (h' : Grown w1 w2) : Grown w w2 :=
  ⟨World.keptBut_trans h.1 (World.keptBut_mono (fun _ f => f.elim) h'.1), fun a => (h'.2.1 a).trans (h.2.1 a), Nat.le_trans h.2.2 h'.2.2⟩

theorem right_ins (x : Ins) (W : World) (hF : Forms W) :
    Calls Tryz.prog 22 #[x.val] W fun e w' => e = .returned (.bool x.right) ∧ w' = W.alloc (.cells (instCells x.op x.rd x.ra x.rb x.n) 30) :=
  right_any x.op x.rd x.ra x.rb x.n (kindOf x.op) (lowOf x.op) (midOf x.op) (highOf x.op) W (fun h1 h2 => ⟨hF _ h1 h2, (tab_ok _ h1 h2).2⟩)
theorem encode_no (x : Ins) (W : World) (hF : Forms W) (hx : x.right = false) :
    Calls Tryz.prog 43 #[x.val] W fun e w' => e = .returned (.tuple #[.int .u32 0, .iface 38 (.int .i64 1)]) ∧ Grown W w' :=
  encode_not x.op x.rd x.ra x.rb x.n W (hx ▸ right_ins x _ (hF.grown ((Grown.refl _).alloc _ _)))
theorem encode_yes (x : Ins) (W : World) (hF : Forms W) (hx : x.right = true) :
    Calls Tryz.prog 43 #[x.val] W fun e w' => e = .returned (.tuple #[.int .u32 x.word, .nilIface]) ∧ Grown W w' := by
  have hr := hx ▸ right_ins x (W.alloc (.cells (instCells x.op x.rd x.ra x.rb x.n) 30)) (hF.grown ((Grown.refl _).alloc _ _))
  obtain ⟨⟨h1, h2⟩, hrd, hra, hrb, hb⟩ := right_parts hx
  obtain ⟨⟨hl, hm, hh, hz, he⟩, hk⟩ := tab_ok x.op h1 h2
  have hf := hF x.op h1 h2
  unfold Ins.word
  rcases hk with hk | hk | hk | hk | hk | hk | hk | ⟨hk, _⟩ <;> rw [hk] at hf ⊢
  · exact encode_R x.op x.rd x.ra x.rb x.n _ _ _ W h1 h2 hrd hra hrb hl hm hh hf hr
  · exact encode_I x.op x.rd x.ra x.rb x.n _ _ _ W h1 h2 hrd hra hrb hl hm hh hf hr
  · exact encode_H x.op x.rd x.ra x.rb x.n _ _ _ W h1 h2 hrd hra hrb hl hm hh hf hr
  · exact encode_S x.op x.rd x.ra x.rb x.n _ _ _ W h1 h2 hrd hra hrb hl hm hh hf hr
  · exact encode_B x.op x.rd x.ra x.rb x.n _ _ _ W h1 h2 hrd hra hrb hl hm hh hf hr
  · exact encode_U x.op x.rd x.ra x.rb x.n _ _ _ W h1 h2 hrd hra hrb hl hm hh hf hr
  · exact encode_J x.op x.rd x.ra x.rb x.n _ _ _ W h1 h2 hrd hra hrb hl hm hh hf hr
  · exact encode_E x.op x.rd x.ra x.rb x.n _ _ _ W h1 h2 hrd hra hrb hl hm hh hf hr
end Go.Proofs.YtodgkbcgdbhpeaaGreatDoor.WordP
