/- What is found of a program does not hang on the order of its functions. No program in sight. No conditions. -/
import Derived.Test.YtdgedlhefjmcpaaGreatDoorChkPlain
namespace Go.Proofs.YtdgedlhefjmcpaaGreatDoor.TreeP
set_option linter.unusedVariables false
set_option linter.unusedSimpArgs false
theorem bind_ok_iff {β : Type} {x : CK Unit} {f : Unit → CK β} {y : β} : bindK x f = .ok y ↔ x = .ok () ∧ f () = .ok y := by
  cases x with
  | error e => simp [bindK]
  | ok u => simp [bindK]
/-- None is called as another one. -/
def Apart (L : List Fn) : Prop := L.Pairwise (fun a b => a.name ≠ b.name)
theorem twiceK_iff : (A L : List Fn) → (twiceK A L = .ok () ↔ (∀ x ∈ L, ∀ g ∈ A, g.name ≠ x.name) ∧ Apart L)
  | A, [] => by simp [twiceK, Apart]
  | A, f :: r => by
    simp only [twiceK]
    split
    · rename_i h
      simp only [List.any_eq_true, beq_iff_eq] at h
      obtain ⟨g, hg, he⟩ := h
      constructor
      · intro h; cases h
      · rintro ⟨h, _⟩
        exact absurd he (h f List.mem_cons_self g hg)
    · rename_i h
      simp only [List.any_eq_true, beq_iff_eq, not_exists, not_and] at h
      rw [twiceK_iff (A ++ [f]) r]
      unfold Apart
      rw [List.pairwise_cons]
      constructor
      · rintro ⟨h1, h2⟩
        refine ⟨fun x hx g hg => ?_, fun x hx => h1 x hx f (by simp), h2⟩
        rcases List.mem_cons.1 hx with rfl | hx
        · exact h g hg
        · exact h1 x hx g (by simp [hg])
      · rintro ⟨h1, h2, h3⟩
        refine ⟨fun x hx g hg => ?_, h3⟩
        rcases List.mem_append.1 hg with hg | hg
        · exact h1 x (List.mem_cons_of_mem _ hx) g hg
        · rw [List.mem_singleton] at hg
          subst hg
          exact h2 x hx
theorem fnsK_iff (M : List Fn) : (L : List Fn) → (fnsK M L = .ok () ↔ ∀ f ∈ L, fnK M f = .ok ())
  | [] => by simp [fnsK]
  | f :: r => by
    simp only [fnsK]
    rw [bind_ok_iff, fnsK_iff M r]
    simp
theorem fnOf_mem {L : List Fn} (h : Apart L) (s : List UInt8) (f : Fn) : fnOf L s = some f ↔ f ∈ L ∧ f.name = s := by
  unfold fnOf
  constructor
  · intro hf
    exact ⟨List.mem_of_find?_eq_some hf, by have := List.find?_some hf; simpa using this⟩
  · rintro ⟨hm, rfl⟩
    induction L with
    | nil => simp at hm
    | cons a r ih =>
      unfold Apart at h
      rw [List.pairwise_cons] at h
      rw [List.find?_cons]
      rcases List.mem_cons.1 hm with rfl | hm
      · simp
      · have : (a.name == f.name) = false := by simpa using h.1 f hm
        rw [this]
        exact ih h.2 hm
theorem fnOf_perm {L M : List Fn} (hL : Apart L) (hM : Apart M) (h : ∀ f, f ∈ L ↔ f ∈ M) (s : List UInt8) : fnOf L s = fnOf M s := by
  cases hx : fnOf L s with
  | some f =>
    have := (fnOf_mem hL s f).1 hx
    exact ((fnOf_mem hM s f).2 ⟨(h f).1 this.1, this.2⟩).symm
  | none =>
    cases hy : fnOf M s with
    | none => rfl
    | some f =>
      have := (fnOf_mem hM s f).1 hy
      rw [(fnOf_mem hL s f).2 ⟨(h f).2 this.1, this.2⟩] at hx
      cases hx
mutual
theorem exprK_same {L M : List Fn} (h : ∀ s, fnOf L s = fnOf M s) (N : Nm) : (e : Ex) → exprK L N e = exprK M N e
  | .num a n => rfl
  | .var a s => rfl
  | .bin a op l r => by simp only [exprK]; rw [exprK_same h N l, exprK_same h N r]
  | .un a op x => by simp only [exprK]; rw [exprK_same h N x]
  | .call a f args => by
    simp only [exprK]
    rw [h f]
    cases fnOf M f with
    | none => rfl
    | some g => simp only; rw [argsK_same h N args]
  | .new a x => by simp only [exprK]; rw [exprK_same h N x]
  | .len a x => by simp only [exprK]; rw [exprK_same h N x]
  | .item a x i => by simp only [exprK]; rw [exprK_same h N x, exprK_same h N i]
  | .input a => rfl
theorem argsK_same {L M : List Fn} (h : ∀ s, fnOf L s = fnOf M s) (N : Nm) : (l : List Ex) → (ks : List Int) → argsK L N l ks = argsK M N l ks
  | [], [] => by simp only [argsK]
  | [], _ :: _ => by simp only [argsK]
  | _ :: _, [] => by simp only [argsK]
  | e :: r, k :: ks => by simp only [argsK]; rw [exprK_same h N e, argsK_same h N r ks]
end
mutual
theorem stmtK_same {L M : List Fn} (h : ∀ s, fnOf L s = fnOf M s) : (s : St) → (N : Nm) → (m : Nat) → stmtK L N m s = stmtK M N m s
  | .var a s v, N, m => by simp only [stmtK]; rw [exprK_same h N v]
  | .set a s v, N, m => by simp only [stmtK, wantK]; rw [exprK_same h N v]
  | .put a s i v, N, m => by simp only [stmtK, wantK]; rw [exprK_same h N i, exprK_same h N v]
  | .cond a v t e, N, m => by simp only [stmtK, wantK]; rw [exprK_same h N v, stmtsK_same h t]; simp only [stmtsK_same h e]
  | .loop a v t, N, m => by simp only [stmtK, wantK]; rw [exprK_same h N v, stmtsK_same h t]
  | .ret a v, N, m => by simp only [stmtK, wantK]; rw [exprK_same h N v]
  | .print a v, N, m => by simp only [stmtK, wantK]; rw [exprK_same h N v]
  | .call a v, N, m => by simp only [stmtK, wantK]; rw [exprK_same h N v]
theorem stmtsK_same {L M : List Fn} (h : ∀ s, fnOf L s = fnOf M s) : (l : List St) → (N : Nm) → (m : Nat) → stmtsK L N m l = stmtsK M N m l
  | [], N, m => by simp only [stmtsK]
  | s :: r, N, m => by simp only [stmtsK]; rw [stmtK_same h s]; simp only [stmtsK_same h r]
end
theorem fnK_same {L M : List Fn} (h : ∀ s, fnOf L s = fnOf M s) (f : Fn) : fnK L f = fnK M f := by
  unfold fnK
  simp only [stmtsK_same h]
def checkOk (L : List Fn) : Prop := Apart L ∧ (∀ f ∈ L, fnK L f = .ok ()) ∧ L.any mainB = true
theorem checkOk_iff (L : List Fn) : bindK (twiceK [] L) (fun _ => bindK (fnsK L L) fun _ => .ok (L.any mainB)) = .ok true ↔ checkOk L := by
  rw [bind_ok_iff, bind_ok_iff, twiceK_iff, fnsK_iff]
  unfold checkOk
  constructor
  · rintro ⟨h1, h2, h3⟩
    exact ⟨h1.2, h2, Except.ok.inj h3⟩
  · rintro ⟨h1, h2, h3⟩
    exact ⟨⟨fun _ _ _ h => (nomatch h), h1⟩, h2, by rw [h3]⟩
theorem checkOk_perm {L M : List Fn} (h : L.Perm M) (hL : checkOk L) : checkOk M := by
  obtain ⟨h1, h2, h3⟩ := hL
  have hM : Apart M := (h.pairwise_iff (fun {a b} hab => Ne.symm hab)).1 h1
  have hs := fnOf_perm h1 hM (fun f => h.mem_iff)
  refine ⟨hM, fun f hf => ?_, ?_⟩
  · rw [← fnK_same hs]
    exact h2 f (h.mem_iff.2 hf)
  · rw [List.any_eq_true] at h3 ⊢
    obtain ⟨x, hx, hp⟩ := h3
    exact ⟨x, h.mem_iff.1 hx, hp⟩
/-- In any order. -/
theorem checkOk_turn {L : List Fn} (k : Nat) (h : checkOk L) : checkOk (L.drop k ++ L.take k) :=
  checkOk_perm (by
    have := (List.perm_append_comm (l₁ := L.take k) (l₂ := L.drop k))
    rw [List.take_append_drop] at this
    exact this) h
/-- Without main. -/
theorem checkOk_less (L : List Fn) : ¬ checkOk (L.filter (fun f => f.name != [109, 97, 105, 110])) := by
  rintro ⟨_, _, h⟩
  rw [List.any_eq_true] at h
  obtain ⟨x, hx, hp⟩ := h
  rw [List.mem_filter] at hx
  unfold mainB at hp
  simp only [Bool.and_eq_true, bne_iff_ne] at hx hp
  exact hx.2 (by simpa using hp.1)
end Go.Proofs.YtdgedlhefjmcpaaGreatDoor.TreeP
