/- Which instruction a word is: contracts of word.likes and word.Decode, of any word; and word.Right, word.Encode of any instruction in one piece. Conditions: the table of forms lies as the program lays it. -/
import Derived.Test.YtgeajgdddjjjnaaDoorWordLaws
namespace Go.Proofs.YtgeajgdddjjjnaaDoor.WordP
set_option linter.unusedSimpArgs false
open Go.RowKit
set_option linter.unusedVariables false

/-- The table of forms lies as the program lays it. -/
def Forms (W : World) : Prop := ∀ op : Int, 1 ≤ op → op ≤ 31 → FormAt W op (kindOf op) (lowOf op) (midOf op) (highOf op)
theorem grown_cell {W W' : World} (h : Grown W W') {a : Addr} {v : Value} (ha : W.cell? a = some v) : W'.cell? a = some v := by
  obtain ⟨⟨_, _, hk⟩, _, _⟩ := h
  have hb := World.block_lt_of_cell? W a ha
  have h1 := hk a.block hb
  unfold World.cell? at ha ⊢
  cases e1 : W.heap[a.block]? with
  | none => rw [e1] at ha; cases ha
  | some o =>
    rw [e1] at ha h1
    cases o with
    | cells c t fr =>
      cases e2 : W'.heap[a.block]? with
      | none => rw [e2] at h1; cases h1
      | some o' =>
        rw [e2] at h1
        cases o' with
        | cells c' t' fr' =>
          simp only at h1 ha ⊢
          obtain ⟨_, _, _, hj⟩ := h1
          split at ha
          · cases ha
          · rename_i hs; rw [if_neg hs, hj _ (fun f => f.elim)]; exact ha
        | _ => simp at h1
    | _ => simp at ha
theorem FormAt.grown {W W' : World} {op k l m h : Int} (hf : FormAt W op k l m h) (hg : Grown W W') : FormAt W' op k l m h :=
  ⟨grown_cell hg hf.c0, grown_cell hg hf.c1, grown_cell hg hf.c2, grown_cell hg hf.c3⟩
theorem Forms.grown {W W' : World} (hf : Forms W) (hg : Grown W W') : Forms W' := fun op h1 h2 => (hf op h1 h2).grown hg
theorem grown_trans {w w1 w2 : World} (h : Grown w w1) (h' : Grown w1 w2) : Grown w w2 :=
  ⟨World.keptBut_trans h.1 (World.keptBut_mono (fun _ f => f.elim) h'.1), fun a => (h'.2.1 a).trans (h.2.1 a), Nat.le_trans h.2.2 h'.2.2⟩

theorem right_ins (x : Ins) (W : World) (hF : Forms W) :
    Calls Tryd.prog 12 #[x.val] W fun e w' => e = .returned (.bool x.right) ∧ w' = W.alloc (.cells (instCells x.op x.rd x.ra x.rb x.n) 23) :=
  right_any x.op x.rd x.ra x.rb x.n (kindOf x.op) (lowOf x.op) (midOf x.op) (highOf x.op) W (fun h1 h2 => ⟨hF _ h1 h2, (tab_ok _ h1 h2).2⟩)
theorem encode_no (x : Ins) (W : World) (hF : Forms W) (hx : x.right = false) :
    Calls Tryd.prog 11 #[x.val] W fun e w' => e = .returned (.tuple #[.int .u32 0, .iface 54 (.int .i64 1)]) ∧ Grown W w' :=
  encode_not x.op x.rd x.ra x.rb x.n W (hx ▸ right_ins x _ (hF.grown ((Grown.refl _).alloc _ _)))
theorem encode_yes (x : Ins) (W : World) (hF : Forms W) (hx : x.right = true) :
    Calls Tryd.prog 11 #[x.val] W fun e w' => e = .returned (.tuple #[.int .u32 x.word, .nilIface]) ∧ Grown W w' := by
  have hr := hx ▸ right_ins x (W.alloc (.cells (instCells x.op x.rd x.ra x.rb x.n) 23)) (hF.grown ((Grown.refl _).alloc _ _))
  obtain ⟨⟨h1, h2⟩, hrd, hra, hrb, hb⟩ := right_parts hx
  obtain ⟨⟨hl, hm, hh, hz, he⟩, hk⟩ := tab_ok x.op h1 h2
  have hf := hF x.op h1 h2
  unfold Ins.word
  rcases hk with hk | hk | hk | hk | hk | hk | hk | ⟨hk, _⟩ <;> rw [hk] at hf ⊢
  · exact encode_R x.op x.rd x.ra x.rb x.n _ _ _ W h1 h2 hrd hra hrb hl hm hh hf hr
  · exact encode_I x.op x.rd x.ra x.rb x.n _ _ _ W h1 h2 hrd hra hrb hl hm hh hf hr
  · exact encode_H x.op x.rd x.ra x.rb x.n _ _ _ W h1 h2 hrd hra hrb hl hm hh hf hr
  · exact encode_S x.op x.rd x.ra x.rb x.n _ _ _ W h1 h2 hrd hra hrb hl hm hh hf hr
  · exact encode_B x.op x.rd x.ra x.rb x.n _ _ _ W h1 h2 hrd hra hrb hl hm hh hf hr
  · exact encode_U x.op x.rd x.ra x.rb x.n _ _ _ W h1 h2 hrd hra hrb hl hm hh hf hr
  · exact encode_J x.op x.rd x.ra x.rb x.n _ _ _ W h1 h2 hrd hra hrb hl hm hh hf hr
  · exact encode_E x.op x.rd x.ra x.rb x.n _ _ _ W h1 h2 hrd hra hrb hl hm hh hf hr
theorem with_ins (w op : Int) (W : World) (hx : 0 ≤ w ∧ w < 4294967296) (h1 : 1 ≤ op) (h2 : op ≤ 31) (hF : Forms W) :
    Calls Tryd.prog 36 #[.int .u32 w, .int .i64 op] W fun e W' => e = .returned (ofWord w op).val ∧ Grown W W' := by
  have hk := (tab_ok op h1 h2).2
  have hf := hF op h1 h2
  unfold ofWord Ins.val
  rcases hk with hk | hk | hk | hk | hk | hk | hk | ⟨hk, _⟩ <;> rw [hk] at hf ⊢
  · exact with_R w op _ _ _ W hx h1 h2 hf
  · exact with_I w op _ _ _ W hx h1 h2 hf
  · exact with_H w op _ _ _ W hx h1 h2 hf
  · exact with_S w op _ _ _ W hx h1 h2 hf
  · exact with_B w op _ _ _ W hx h1 h2 hf
  · exact with_U w op _ _ _ W hx h1 h2 hf
  · exact with_J w op _ _ _ W hx h1 h2 hf
  · exact with_E w op _ _ _ W hx h1 h2 hf
theorem andNot1 (x : Int) (hx : 0 ≤ x ∧ x < 4294967296) : bits .andNot .u32 x 1 = x - x % 2 := by
  obtain ⟨X, rfl⟩ := Int.eq_ofNat_of_zero_le hx.1
  have h := u32_andNot_nat X 1 (by omega) (by decide)
  have h1 : ((1 : Nat) : Int) = 1 := rfl
  rw [h1] at h
  rw [h]
  have e : X &&& (4294967295 - 1) = X - X % 2 := by
    have k : ∀ i : Nat, i < 32 → (4294967294 : Nat).testBit i = decide (1 ≤ i) := by decide
    apply Nat.eq_of_testBit_eq
    intro i
    have hs : X - X % 2 = (X / 2) * 2 ^ 1 := by omega
    rw [hs, Nat.testBit_and, Nat.testBit_mul_two_pow]
    by_cases hi : i < 32
    · rw [k i hi]
      by_cases h1 : 1 ≤ i
      · simp only [h1, decide_true, Bool.and_true, Bool.true_and]
        have : X / 2 = X / 2 ^ 1 := rfl
        rw [this, Nat.testBit_div_two_pow]
        congr 1
        omega
      · simp [h1]
    · have hb : X.testBit i = false := Nat.testBit_lt_two_pow (Nat.lt_of_lt_of_le (show X < 2 ^ 32 by omega) (Nat.pow_le_pow_right (by decide) (by omega)))
      have hb2 : (X / 2).testBit (i - 1) = false := Nat.testBit_lt_two_pow (Nat.lt_of_lt_of_le (show X / 2 < 2 ^ 31 by omega) (Nat.pow_le_pow_right (by decide) (by omega)))
      rw [hb, hb2]; simp
  rw [e]; omega
set_option maxHeartbeats 1000000 in
theorem likes_any (w k l m h : Int) (W : World) (hx : 0 ≤ w ∧ w < 4294967296) :
    Calls Tryd.prog 35 #[.int .u32 w, .agg #[.int .u8 k, .int .u32 l, .int .u32 m, .int .u32 h]] W fun e W' => e = .returned (.bool (likesB k w m h)) ∧ Grown W W' := by
  have e1 : bits .and .u32 (w / 4096) 7 = w / 4096 % 8 := and_mask _ 3 (by decide) _ (by decide)
  have e2 := andNot1 (w / 33554432) (by omega)
  by_cases h1 : k = 82
  · subst h1
    by_cases h2 : w / 4096 % 8 = m
    · have h2' : (w / 4096 % 8 == m) = true := by simpa using h2
      clear h2
      go_enter Tryd.func35, Tryd.ntmps35
      go_wp2
      go_ret
      exact ⟨ret_bool (by simp [likesB, h2']), by repeat (first | with_reducible apply Grown.alloc | with_reducible exact Grown.refl _)⟩
    · have h2' : (w / 4096 % 8 == m) = false := by simpa using h2
      clear h2
      go_enter Tryd.func35, Tryd.ntmps35
      go_wp2
      go_ret
      exact ⟨ret_bool (by simp [likesB, h2']), by repeat (first | with_reducible apply Grown.alloc | with_reducible exact Grown.refl _)⟩
  have k1 : (k == 82) = false := by simpa using h1
  by_cases h3 : k = 72
  · subst h3
    by_cases h2 : w / 4096 % 8 = m
    · have h2' : (w / 4096 % 8 == m) = true := by simpa using h2
      clear h2
      go_enter Tryd.func35, Tryd.ntmps35
      go_wp2
      go_ret
      exact ⟨ret_bool (by simp [likesB, h2']), by repeat (first | with_reducible apply Grown.alloc | with_reducible exact Grown.refl _)⟩
    · have h2' : (w / 4096 % 8 == m) = false := by simpa using h2
      clear h2
      go_enter Tryd.func35, Tryd.ntmps35
      go_wp2
      go_ret
      exact ⟨ret_bool (by simp [likesB, h2']), by repeat (first | with_reducible apply Grown.alloc | with_reducible exact Grown.refl _)⟩
  have k2 : (k == 72) = false := by simpa using h3
  by_cases h4 : k = 85
  · subst h4
    go_enter Tryd.func35, Tryd.ntmps35
    go_wp2
    go_ret
    exact ⟨ret_bool (by simp [likesB]), by repeat (first | with_reducible apply Grown.alloc | with_reducible exact Grown.refl _)⟩
  have k3 : (k == 85) = false := by simpa using h4
  by_cases h5 : k = 74
  · subst h5
    go_enter Tryd.func35, Tryd.ntmps35
    go_wp2
    go_ret
    exact ⟨ret_bool (by simp [likesB]), by repeat (first | with_reducible apply Grown.alloc | with_reducible exact Grown.refl _)⟩
  have k4 : (k == 74) = false := by simpa using h5
  by_cases h6 : k = 69
  · subst h6
    go_enter Tryd.func35, Tryd.ntmps35
    go_wp2
    go_ret
    exact ⟨ret_bool (by simp [likesB]), by repeat (first | with_reducible apply Grown.alloc | with_reducible exact Grown.refl _)⟩
  have k5 : (k == 69) = false := by simpa using h6
  clear h1 h3 h4 h5 h6
  go_enter Tryd.func35, Tryd.ntmps35
  go_wp2
  go_ret
  simp only [beq_eq_false_iff_ne] at k1 k2 k3 k4 k5
  exact ⟨ret_bool (by simp [likesB, k1, k2, k3, k4, k5]), by repeat (first | with_reducible apply Grown.alloc | with_reducible exact Grown.refl _)⟩
end Go.Proofs.YtgeajgdddjjjnaaDoor.WordP
