/- Plainly: where a program's parts stand changes nothing of how it ends, nor whether something is found; who is found nothing of is right. No program in sight. No conditions. -/
import Derived.Test.YtdgedlhefjmcpaaGreatDoorRunPl
import Derived.Test.YtdgedlhefjmcpaaGreatDoorTreeBck
import Derived.Test.YtdgedlhefjmcpaaGreatDoorTurnPlain
import Derived.Test.YtdgedlhefjmcpaaGreatDoorRunStm
import Derived.Test.YtdgedlhefjmcpaaGreatDoorRunDo
namespace Go.Proofs.YtdgedlhefjmcpaaGreatDoor.TreeP
open Go.RowKit
set_option linter.unusedVariables false
set_option linter.unusedSimpArgs false
theorem fnOf_strip (L : List Fn) (g : List UInt8) : fnOf (L.map stripF) g = (fnOf L g).map stripF := by
  unfold fnOf
  induction L with
  | nil => rfl
  | cons a r ih =>
    simp only [List.map_cons, List.find?_cons]
    have : (stripF a).name = a.name := rfl
    rw [this]
    cases (a.name == g) with
    | true => rfl
    | false => exact ih
theorem fnGet_strip (L : List Fn) (g : List UInt8) : fnGet (L.map stripF) g = stripF (fnGet L g) := by
  unfold fnGet
  rw [fnOf_strip]
  cases fnOf L g with
  | none => simp [stripF, stripSs]
  | some fn => rfl
theorem strip_all (L : List Fn) : ∀ f, (∀ s F e, evE (L.map stripF) f s F (stripE e) = evE L f s F e) ∧ (∀ s F l vs, evA (L.map stripF) f s F (stripEs l) vs = evA L f s F l vs) ∧ (∀ s g vs, callR (L.map stripF) f s g vs = callR L f s g vs) ∧ (∀ s F l, blockR (L.map stripF) f s F (stripSs l) = blockR L f s F l) ∧ (∀ s F x, stmtR (L.map stripF) f s F (stripS x) = stmtR L f s F x) ∧ (∀ s F v t, whileR (L.map stripF) f s F (stripE v) (stripSs t) = whileR L f s F v t) := by
  intro f
  induction f with
  | zero => refine ⟨fun s F e => ?_, fun s F l vs => ?_, fun s g vs => ?_, fun s F l => ?_, fun s F x => ?_, fun s F v t => ?_⟩ <;> simp only [evE, evA, callR, blockR, stmtR, whileR]
  | succ f ih =>
    obtain ⟨i1, i2, i3, i4, i5, i6⟩ := ih
    refine ⟨fun s F e => ?_, fun s F l vs => ?_, fun s g vs => ?_, fun s F l => ?_, fun s F x => ?_, fun s F v t => ?_⟩
    · cases e <;> simp only [stripE, evE, i1, i2, i3]
    · cases l <;> simp only [stripEs, evA, i1, i2]
    · simp only [callR, fnGet_strip, stripF, i4]
    · cases l <;> simp only [stripSs, blockR, i4, i5]
    · cases x <;> simp only [stripS, stmtR, i1, i4, i6]
    · simp only [whileR, i1, i4, i6]
theorem run_strip {L M : List Fn} (h : M.map stripF = L.map stripF) (f : Nat) (given : List Int) (fuel : Nat) : runR M f given fuel = runR L f given fuel := by
  rw [runR_eq, runR_eq, ← (strip_all M f).2.2.1, h, (strip_all L f).2.2.1]
/-! Which functions there are. -/
theorem same_all {L M : List Fn} (h : ∀ g, fnGet L g = fnGet M g) : ∀ f, (∀ s F e, evE L f s F e = evE M f s F e) ∧ (∀ s F l vs, evA L f s F l vs = evA M f s F l vs) ∧ (∀ s g vs, callR L f s g vs = callR M f s g vs) ∧ (∀ s F l, blockR L f s F l = blockR M f s F l) ∧ (∀ s F x, stmtR L f s F x = stmtR M f s F x) ∧ (∀ s F v t, whileR L f s F v t = whileR M f s F v t) := by
  intro f
  induction f with
  | zero => refine ⟨fun s F e => ?_, fun s F l vs => ?_, fun s g vs => ?_, fun s F l => ?_, fun s F x => ?_, fun s F v t => ?_⟩ <;> simp only [evE, evA, callR, blockR, stmtR, whileR]
  | succ f ih =>
    obtain ⟨i1, i2, i3, i4, i5, i6⟩ := ih
    refine ⟨fun s F e => ?_, fun s F l vs => ?_, fun s g vs => ?_, fun s F l => ?_, fun s F x => ?_, fun s F v t => ?_⟩
    · cases e <;> simp only [evE, i1, i2, i3]
    · cases l <;> simp only [evA, i1, i2]
    · simp only [callR, h, i4]
    · cases l <;> simp only [blockR, i4, i5]
    · cases x <;> simp only [stmtR, i1, i4, i6]
    · simp only [whileR, i1, i4, i6]
theorem run_same {L M : List Fn} (h : ∀ g, fnOf L g = fnOf M g) (f : Nat) (given : List Int) (fuel : Nat) : runR L f given fuel = runR M f given fuel := by
  rw [runR_eq, runR_eq, (same_all (L := L) (M := M) (fun g => by unfold fnGet; rw [h]) f).2.2.1]
/-! Whether something is found. -/
def okK {α : Type} (x : CK α) : Option α := match x with | .ok a => some a | .error _ => none
theorem okK_iff {α : Type} {x : CK α} {a : α} : okK x = some a ↔ x = .ok a := by
  cases x <;> simp [okK]
theorem okK_bind {α β : Type} (x : CK α) (f : α → CK β) : okK (bindK x f) = (okK x).bind fun a => okK (f a) := by
  cases x <;> rfl
theorem okK_want (e e' : Ex) (k t : Int) : okK (wantT e k t) = okK (wantT e' k t) := by
  unfold wantT; split <;> rfl
theorem okK_add (N : Nm) (m : Nat) (p : List UInt8 × Int) (a b : Int) : okK (addN N m p a) = okK (addN N m p b) := by
  unfold addN; split
  · rfl
  · split <;> rfl
theorem stripEs_len : (l : List Ex) → (stripEs l).length = l.length
  | [] => rfl
  | e :: r => by simp only [stripEs, List.length_cons, stripEs_len r]
mutual
theorem exprK_strip (L : List Fn) (N : Nm) : (e : Ex) → okK (exprK (L.map stripF) N (stripE e)) = okK (exprK L N e)
  | .num a n => by simp only [stripE, exprK]
  | .var a s => by simp only [stripE, exprK]; split <;> rfl
  | .bin a op l r => by simp only [stripE, exprK, okK_bind, exprK_strip L N l, exprK_strip L N r, okK_want (stripE l) l, okK_want (stripE r) r]
  | .un a op x => by simp only [stripE, exprK, okK_bind, exprK_strip L N x, okK_want (stripE x) x]
  | .call a f args => by
    simp only [stripE, exprK, fnOf_strip]
    cases fnOf L f with
    | none => rfl
    | some g =>
      simp only [Option.map_some, stripEs_len]
      have : (stripF g).params = g.params := rfl
      rw [this]
      split
      · simp only [okK_bind, argsK_strip L N args]
      · rfl
  | .new a x => by simp only [stripE, exprK, okK_bind, exprK_strip L N x, okK_want (stripE x) x]
  | .len a x => by simp only [stripE, exprK, okK_bind, exprK_strip L N x, okK_want (stripE x) x]
  | .item a x i => by simp only [stripE, exprK, okK_bind, exprK_strip L N x, exprK_strip L N i, okK_want (stripE x) x, okK_want (stripE i) i]
  | .input a => by simp only [stripE, exprK]
theorem argsK_strip (L : List Fn) (N : Nm) : (l : List Ex) → (ks : List Int) → okK (argsK (L.map stripF) N (stripEs l) ks) = okK (argsK L N l ks)
  | [], [] => by simp only [stripEs, argsK]
  | [], _ :: _ => by simp only [stripEs, argsK]
  | _ :: _, [] => by simp only [stripEs, argsK]
  | e :: r, k :: ks => by simp only [stripEs, argsK, okK_bind, exprK_strip L N e, okK_want (stripE e) e, argsK_strip L N r ks]
end
theorem wantK_strip (L : List Fn) (N : Nm) (e : Ex) (k : Int) : okK (wantK (L.map stripF) N (stripE e) k) = okK (wantK L N e k) := by
  unfold wantK
  simp only [okK_bind, exprK_strip, okK_want (stripE e) e]
mutual
theorem stmtK_strip (L : List Fn) : (x : St) → (N : Nm) → (m : Nat) → okK (stmtK (L.map stripF) N m (stripS x)) = okK (stmtK L N m x)
  | .var a s v, N, m => by simp only [stripS, stmtK, okK_bind, exprK_strip, okK_add N m _ 0 a]
  | .set a s v, N, m => by
    simp only [stripS, stmtK]
    split
    · rfl
    · simp only [okK_bind, wantK_strip]
  | .put a s i v, N, m => by
    simp only [stripS, stmtK]
    split
    · rfl
    · split
      · rfl
      · simp only [okK_bind, wantK_strip]
  | .cond a v t e, N, m => by simp only [stripS, stmtK, okK_bind, wantK_strip, stmtsK_strip L t, stmtsK_strip L e]
  | .loop a v t, N, m => by simp only [stripS, stmtK, okK_bind, wantK_strip, stmtsK_strip L t]
  | .ret a v, N, m => by simp only [stripS, stmtK, okK_bind, wantK_strip]
  | .print a v, N, m => by simp only [stripS, stmtK, okK_bind, wantK_strip]
  | .call a v, N, m => by simp only [stripS, stmtK, okK_bind, wantK_strip]
theorem stmtsK_strip (L : List Fn) : (l : List St) → (N : Nm) → (m : Nat) → okK (stmtsK (L.map stripF) N m (stripSs l)) = okK (stmtsK L N m l)
  | [], N, m => by simp only [stripSs, stmtsK]
  | x :: r, N, m => by simp only [stripSs, stmtsK, okK_bind, stmtK_strip L x, stmtsK_strip L r]
end
theorem paramsK_strip (a : Int) : (l : List (List UInt8 × Int)) → (N : Nm) → (m : Nat) → okK (paramsK N m 0 l) = okK (paramsK N m a l)
  | [], N, m => rfl
  | p :: r, N, m => by simp only [paramsK, okK_bind, okK_add N m p 0 a, paramsK_strip a r]
theorem fnK_strip (L : List Fn) (x : Fn) : okK (fnK (L.map stripF) (stripF x)) = okK (fnK L x) := by
  unfold fnK
  simp only [stripF, okK_bind, paramsK_strip x.at_, stmtsK_strip]
theorem apart_strip (L : List Fn) : Apart (L.map stripF) ↔ Apart L := by
  unfold Apart
  rw [List.pairwise_map]
  exact Iff.rfl
theorem checkOk_strip (L : List Fn) : checkOk (L.map stripF) ↔ checkOk L := by
  unfold checkOk
  rw [apart_strip]
  constructor
  · rintro ⟨h1, h2, h3⟩
    refine ⟨h1, fun f hf => ?_, ?_⟩
    · have := h2 (stripF f) (List.mem_map_of_mem hf)
      rw [← okK_iff, fnK_strip, okK_iff] at this
      exact this
    · rw [List.any_map] at h3
      exact h3
  · rintro ⟨h1, h2, h3⟩
    refine ⟨h1, fun f hf => ?_, ?_⟩
    · obtain ⟨x, hx, rfl⟩ := List.mem_map.1 hf
      rw [← okK_iff, fnK_strip, okK_iff]
      exact h2 x hx
    · rw [List.any_map]
      exact h3
theorem checkOk_like {L M : List Fn} (h : M.map stripF = L.map stripF) (hL : checkOk L) : checkOk M := by
  rw [← checkOk_strip, h, checkOk_strip]
  exact hL
/-! Right. -/
theorem name_short {s : List UInt8} (h : NameOk s) : s.length ≤ 10000000 := by have := h.2.2.2; omega
/-- Parameters are few. -/
def FewP (L : List Fn) : Prop := ∀ g fn, fnOf L g = some fn → fn.params.length ≤ 1000000
mutual
theorem goodE_of {L : List Fn} (hP : FewP L) (N : Nm) : (e : Ex) → (d : Nat) → (t : Int) → Fit e d → exprK L N e = .ok t → GoodE L e
  | .num _ n, d, t, hf, hk => trivial
  | .var _ s, d, t, hf, hk => by simp only [Fit] at hf; exact name_short hf.2
  | .bin _ op l r, d, t, hf, hk => by
    simp only [Fit] at hf
    simp only [exprK] at hk
    obtain ⟨t1, k1, hk⟩ := bindK_ok hk
    obtain ⟨_, _, hk⟩ := bindK_ok hk
    obtain ⟨t2, k2, hk⟩ := bindK_ok hk
    refine ⟨?_, ?_⟩
    · have h2 := hf.2.1
      split at h2
      · exact goodE_of hP N l _ _ h2.2 k1
      · exact goodE_of hP N l _ _ h2 k1
    · have h2 := hf.2.2
      split at h2
      · exact goodE_of hP N r _ _ h2.2 k2
      · exact goodE_of hP N r _ _ h2 k2
  | .un _ op x, d, t, hf, hk => by
    simp only [Fit] at hf
    simp only [exprK] at hk
    obtain ⟨t1, k1, hk⟩ := bindK_ok hk
    simp only [GoodE]
    have h2 := hf.2.2
    split at h2
    · exact goodE_of hP N x _ _ h2.2 k1
    · exact goodE_of hP N x _ _ h2 k1
  | .call _ f args, d, t, hf, hk => by
    simp only [Fit] at hf
    simp only [exprK] at hk
    cases hfn : fnOf L f with
    | none => rw [hfn] at hk; cases hk
    | some g =>
      rw [hfn] at hk
      simp only at hk
      split at hk
      · rename_i hl
        obtain ⟨_, k1, hk⟩ := bindK_ok hk
        have := hP f g hfn
        exact ⟨name_short hf.2.1, by omega, ⟨g, hfn, hl⟩, goodEs_of hP N args _ _ hf.2.2 (by simp [hl]) k1⟩
      · cases hk
  | .new _ x, d, t, hf, hk => by
    simp only [Fit] at hf
    simp only [exprK] at hk
    obtain ⟨t1, k1, hk⟩ := bindK_ok hk
    exact goodE_of hP N x _ _ hf.2 k1
  | .len _ x, d, t, hf, hk => by
    simp only [Fit] at hf
    simp only [exprK] at hk
    obtain ⟨t1, k1, hk⟩ := bindK_ok hk
    exact goodE_of hP N x _ _ hf.2 k1
  | .item _ x i, d, t, hf, hk => by
    simp only [Fit] at hf
    simp only [exprK] at hk
    obtain ⟨t1, k1, hk⟩ := bindK_ok hk
    obtain ⟨_, _, hk⟩ := bindK_ok hk
    obtain ⟨t2, k2, hk⟩ := bindK_ok hk
    refine ⟨?_, goodE_of hP N i _ _ hf.2.2 k2⟩
    have h2 := hf.2.1
    split at h2
    · exact goodE_of hP N x _ _ h2 k1
    · split at h2
      · exact goodE_of hP N x _ _ h2.2 k1
      · exact goodE_of hP N x _ _ h2 k1
  | .input _, d, t, hf, hk => trivial
theorem goodEs_of {L : List Fn} (hP : FewP L) (N : Nm) : (l : List Ex) → (d : Nat) → (ks : List Int) → Fits l d → l.length = ks.length → argsK L N l ks = .ok () → GoodEs L l
  | [], d, ks, hf, hl, hk => trivial
  | e :: r, d, [], hf, hl, hk => by simp at hl
  | e :: r, d, k :: ks, hf, hl, hk => by
    simp only [Fits] at hf
    simp only [argsK] at hk
    obtain ⟨t1, k1, hk⟩ := bindK_ok hk
    obtain ⟨_, _, hk⟩ := bindK_ok hk
    exact ⟨goodE_of hP N e _ _ hf.1 k1, goodEs_of hP N r _ _ hf.2 (by simpa using hl) hk⟩
end
theorem goodW_of {L : List Fn} (hP : FewP L) {N : Nm} {e : Ex} {d : Nat} {k : Int} {u : Unit} (hf : Fit e d) (h : wantK L N e k = .ok u) : GoodE L e := by
  unfold wantK at h
  obtain ⟨t, h1, _⟩ := bindK_ok h
  exact goodE_of hP N e d t hf h1
mutual
theorem goodS_of {L : List Fn} (hP : FewP L) : (x : St) → (N : Nm) → (m d : Nat) → (y : Nm × Nat) → FitS x d → stmtK L N m x = .ok y → GoodS L x
  | .var _ s v, N, m, d, y, hf, hk => by
    simp only [FitS] at hf
    simp only [stmtK] at hk
    obtain ⟨t, h1, _⟩ := bindK_ok hk
    exact ⟨name_short hf.1, goodE_of hP N v _ _ hf.2 h1⟩
  | .set _ s v, N, m, d, y, hf, hk => by
    simp only [FitS] at hf
    simp only [stmtK] at hk
    split at hk
    · cases hk
    · obtain ⟨t, h1, _⟩ := bindK_ok hk
      exact ⟨name_short hf.1, goodW_of hP hf.2 h1⟩
  | .put _ s i v, N, m, d, y, hf, hk => by
    simp only [FitS] at hf
    simp only [stmtK] at hk
    split at hk
    · cases hk
    · split at hk
      · cases hk
      · obtain ⟨t, h1, hk⟩ := bindK_ok hk
        obtain ⟨t2, h2, hk⟩ := bindK_ok hk
        exact ⟨name_short hf.1, goodW_of hP hf.2.1 h1, goodW_of hP hf.2.2 h2⟩
  | .cond _ v t e, N, m, d, y, hf, hk => by
    simp only [FitS] at hf
    simp only [stmtK] at hk
    obtain ⟨_, h1, hk⟩ := bindK_ok hk
    obtain ⟨_, h2, hk⟩ := bindK_ok hk
    obtain ⟨_, h3, hk⟩ := bindK_ok hk
    exact ⟨goodW_of hP hf.1 h1, goodSs_of hP t _ _ _ _ hf.2.2.1 h2, goodSs_of hP e _ _ _ _ hf.2.2.2 h3⟩
  | .loop _ v t, N, m, d, y, hf, hk => by
    simp only [FitS] at hf
    simp only [stmtK] at hk
    obtain ⟨_, h1, hk⟩ := bindK_ok hk
    obtain ⟨_, h2, hk⟩ := bindK_ok hk
    exact ⟨goodW_of hP hf.1 h1, goodSs_of hP t _ _ _ _ hf.2.2 h2⟩
  | .ret _ v, N, m, d, y, hf, hk => by
    simp only [FitS] at hf
    simp only [stmtK] at hk
    obtain ⟨_, h1, hk⟩ := bindK_ok hk
    exact goodW_of hP hf h1
  | .print _ v, N, m, d, y, hf, hk => by
    simp only [FitS] at hf
    simp only [stmtK] at hk
    obtain ⟨_, h1, hk⟩ := bindK_ok hk
    exact goodW_of hP hf h1
  | .call _ v, N, m, d, y, hf, hk => by
    simp only [FitS] at hf
    simp only [stmtK] at hk
    obtain ⟨_, h1, hk⟩ := bindK_ok hk
    exact goodW_of hP hf.2 h1
theorem goodSs_of {L : List Fn} (hP : FewP L) : (l : List St) → (N : Nm) → (m d : Nat) → (y : Nm × Nat) → FitSs l d → stmtsK L N m l = .ok y → GoodSs L l
  | [], N, m, d, y, hf, hk => trivial
  | x :: r, N, m, d, y, hf, hk => by
    simp only [FitSs] at hf
    simp only [stmtsK] at hk
    obtain ⟨_, h1, hk⟩ := bindK_ok hk
    exact ⟨goodS_of hP x _ _ _ _ hf.1 h1, goodSs_of hP r _ _ _ _ hf.2 hk⟩
end
theorem cntPs_len : (l : List (List UInt8 × Int)) → l.length ≤ cntPs l
  | [] => Nat.le_refl _
  | [p] => by simp [cntPs]
  | p :: q :: r => by
    have h1 : cntPs (p :: q :: r) = 3 + (1 + cntPs (q :: r)) := rfl
    have := cntPs_len (q :: r)
    simp only [List.length_cons] at *
    omega
theorem cntFs_mem : {L : List Fn} → {x : Fn} → x ∈ L → cntF x ≤ cntFs L
  | a :: r, x, h => by
    simp only [cntFs]
    rcases List.mem_cons.1 h with rfl | h
    · omega
    · have := cntFs_mem h
      omega
/-- A program that was read, and is found nothing of, is right. -/
theorem good_of {L : List Fn} (hp : Prog L) (hc : checkOk L) : GoodL L := by
  have hP : ∀ g fn, fnOf L g = some fn → fn ∈ L ∧ fn.params.length ≤ 1000000 := by
    intro g fn hfn
    have hm := ((fnOf_mem hc.1 g fn).1 hfn).1
    refine ⟨hm, ?_⟩
    have h1 := cntPs_len fn.params
    have h2 := cntFs_mem hm
    have h3 := hp.cnt
    unfold cntF at h2
    omega
  intro g fn hfn
  obtain ⟨hm, hl⟩ := hP g fn hfn
  have hk := hc.2.1 fn hm
  have hf := hp.fit fn hm
  unfold fnK at hk
  obtain ⟨_, h1, hk⟩ := bindK_ok hk
  obtain ⟨_, h2, hk⟩ := bindK_ok hk
  exact ⟨goodSs_of (fun g fn h => (hP g fn h).2) fn.body _ _ _ _ hf.2.2 h2, fun p hp => name_short (hf.2.1 p hp).1, hl⟩
/-- There is a main. -/
theorem main_of {L : List Fn} (hc : checkOk L) : ∃ fn, fnOf L [109, 97, 105, 110] = some fn ∧ fn.params = [] := by
  obtain ⟨x, hx, hp⟩ := List.any_eq_true.1 hc.2.2
  unfold mainB at hp
  simp only [Bool.and_eq_true, beq_iff_eq, List.length_eq_zero_iff] at hp
  exact ⟨x, (fnOf_mem hc.1 _ x).2 ⟨hx, hp.1⟩, hp.2⟩
end Go.Proofs.YtdgedlhefjmcpaaGreatDoor.TreeP
