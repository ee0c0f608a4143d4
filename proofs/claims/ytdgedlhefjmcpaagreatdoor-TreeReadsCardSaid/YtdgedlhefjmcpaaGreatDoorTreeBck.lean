/- Statements, too, come to an end; how long what is written is; its numbers. No program in sight. No conditions. Parse and Print as the laws call them; the fact. Conditions: what they read of the package's variables lies as the program lays it. -/
import Derived.Test.YtdgedlhefjmcpaaGreatDoorTreeBk
import Derived.Test.YtdgedlhefjmcpaaGreatDoorTreePr
import Derived.Test.YtdgedlhefjmcpaaGreatDoorTreePar
namespace Go.Proofs.YtdgedlhefjmcpaaGreatDoor.TreeP
set_option linter.unusedVariables false
set_option linter.unusedSimpArgs false
structure RunsS (f : Nat) : Prop where
  block : ∀ {d ts}, 12 * ts.length + 1 ≤ f → blockF f d ts ≠ none
  stmts : ∀ {d l ts}, 12 * ts.length + 3 ≤ f → stmtsF f d l ts ≠ none
  stmt : ∀ {d ts}, 12 * ts.length + 2 ≤ f → stmtF f d ts ≠ none
  named : ∀ {ts}, 12 * ts.length + 1 ≤ f → namedF f ts ≠ none
theorem runsS : (f : Nat) → RunsS f
  | 0 => ⟨fun h => by omega, fun h => by omega, fun h => by omega, fun h => by omega⟩
  | f + 1 => by
    have ih := runsS f
    have e := runs f
    have L := lens f
    have S := slens f
    refine ⟨?_, ?_, ?_, ?_⟩
    · intro d ts h
      simp only [blockF]
      split
      · exact failP_runs _ _
      · refine andThen_runs (must_runs _ _) fun u r hu => ih.stmts ?_
        have := must_less hu
        omega
    · intro d l ts h
      simp only [stmtsF]
      split
      · exact okP_runs _ _
      · refine andThen_runs (ih.stmt (by omega)) fun x r hx => ih.stmts ?_
        have := S.stmt hx
        omega
    · intro d ts h
      simp only [stmtF]
      have semi : ∀ {α : Type} (mk : Ex → α) {s : List UInt8}, seeB s ts = true → (andThen (exprF f 0 0 ts.tail) fun v r => andThen (must [59] r) fun _ r2 => okP (mk v) r2) ≠ none := by
        intro α mk s hs
        have := see_less hs
        exact andThen_runs (e.expr (by omega) (by omega)) fun v r hv => andThen_runs (must_runs _ _) fun _ _ _ => okP_runs _ _
      split
      · rename_i hs
        have := see_less hs
        refine andThen_runs (e.alone (by omega)) fun v r hv => ?_
        have := L.alone hv
        refine andThen_runs (ih.block (by omega)) fun t r2 ht => ?_
        have := S.block ht
        split
        · rename_i hs2
          have := see_less hs2
          exact andThen_runs (ih.block (by omega)) fun _ _ _ => okP_runs _ _
        · exact okP_runs _ _
      · split
        · rename_i hs
          have := see_less hs
          refine andThen_runs (e.alone (by omega)) fun v r hv => ?_
          have := L.alone hv
          exact andThen_runs (ih.block (by omega)) fun _ _ _ => okP_runs _ _
        · split
          · rename_i hs
            have := see_less hs
            refine andThen_runs (name_runs _) fun n r hn => andThen_runs (must_runs _ _) fun u r2 hu => ?_
            have := name_less hn
            have := must_less hu
            exact andThen_runs (e.expr (by omega) (by omega)) fun v r hv => andThen_runs (must_runs _ _) fun _ _ _ => okP_runs _ _
          · split
            · rename_i hs
              exact semi _ hs
            · split
              · rename_i hs
                exact semi _ hs
              · exact andThen_runs (ih.named (by omega)) fun _ _ _ => andThen_runs (must_runs _ _) fun _ _ _ => okP_runs _ _
    · intro ts h
      simp only [namedF]
      refine andThen_runs (name_runs _) fun n r hn => ?_
      have := name_less hn
      split
      · exact andThen_runs (e.args (by omega)) fun _ _ _ => okP_runs _ _
      · split
        · rename_i hs
          have := see_less hs
          refine andThen_runs (e.expr (by omega) (by omega)) fun i r2 hi => andThen_runs (must_runs _ _) fun u r3 hu => andThen_runs (must_runs _ _) fun u2 r4 hu2 => ?_
          have := L.expr hi
          have := must_less hu
          have := must_less hu2
          exact andThen_runs (e.expr (by omega) (by omega)) fun _ _ _ => okP_runs _ _
        · refine andThen_runs (must_runs _ _) fun u r2 hu => ?_
          have := must_less hu
          exact andThen_runs (e.expr (by omega) (by omega)) fun _ _ _ => okP_runs _ _
theorem params_runs : (f : Nat) → (b : Bool) → (l : List (List UInt8 × Int)) → (ts : List Tok) → ts.length < f → paramsF f b l ts ≠ none
  | 0, _, _, _, h => by omega
  | f + 1, b, l, ts, h => by
    simp only [paramsF]
    split
    · exact okP_runs _ _
    · refine andThen_runs (by split; exact okP_runs _ _; exact must_runs _ _) fun u r hu => ?_
      have hr : r.length ≤ ts.length := by
        split at hu
        · rw [(okP_ok hu).2]; exact Nat.le_refl _
        · exact Nat.le_of_lt (must_less hu)
      refine andThen_runs (name_runs _) fun n r2 hn => andThen_runs (must_runs _ _) fun u2 r3 hu2 => ?_
      have := name_less hn
      have := must_less hu2
      split
      · exact params_runs f _ _ _ (by have := tail_le r3; omega)
      · refine andThen_runs (must_runs _ _) fun u4 r4 hu4 => params_runs f _ _ _ ?_
        have := must_less hu4
        omega
theorem function_runs {f : Nat} {ts : List Tok} (h : 12 * ts.length + 1 ≤ f) : functionF f ts ≠ none := by
  cases f with
  | zero => omega
  | succ f =>
    simp only [functionF]
    refine andThen_runs (must_runs _ _) fun u r hu => andThen_runs (name_runs _) fun n r2 hn => andThen_runs (must_runs _ _) fun u3 r3 hu3 => ?_
    have := must_less hu
    have := name_less hn
    have := must_less hu3
    refine andThen_runs (params_runs _ _ _ _ (by omega)) fun ps r4 hp => ?_
    have := params_le _ _ _ _ hp
    exact andThen_runs ((runsS f).block (by omega)) fun _ _ _ => okP_runs _ _
theorem program_runs : (f : Nat) → (l : List Fn) → (ts : List Tok) → 12 * ts.length + 2 ≤ f → programF f l ts ≠ none
  | 0, _, _, h => by omega
  | f + 1, l, ts, h => by
    simp only [programF]
    split
    · exact okP_runs _ _
    · split
      · exact failP_runs _ _
      · refine andThen_runs (function_runs (by omega)) fun x r hx => program_runs f _ _ ?_
        have := function_less hx
        omega
theorem itoab_len {n : Int} (h0 : 0 ≤ n) (h : n < 9223372036854775808) : (Lib.itoa n).length ≤ 19 := by
  unfold Lib.itoa
  rw [if_neg (by omega), Lib.decDigits_length]
  by_cases h1 : Lib.nDigits n.toNat ≤ 19
  · exact h1
  · exfalso
    have key : ∀ (k u : Nat), u < 10 ^ (k + 1) → Lib.nDigits u ≤ k + 1 := by
      intro k
      induction k with
      | zero => intro u hu; rw [Lib.nDigits_small (by simpa using hu)]; exact Nat.le_refl _
      | succ k ih =>
        intro u hu
        by_cases h9 : u < 10
        · rw [Lib.nDigits_small h9]; omega
        · rw [Lib.nDigits_big h9]
          have := ih (u / 10) (by rw [Nat.pow_succ] at hu; omega)
          omega
    have := key 18 n.toNat (by rw [show (10 : Nat) ^ (18 + 1) = 10000000000000000000 by decide]; omega)
    omega
theorem opb_len {op : List UInt8} (h : ∃ k, k < 6 ∧ op ∈ levelList.getD k []) : op.length ≤ 2 := by
  have h1 := mark_head h
  have : ∀ s ∈ markList, s.length ≤ 2 := by decide
  exact this op h1
theorem parenb_len {e : Ex} (lv : Nat) (t : List UInt8) : (paren (levelB e) lv t).length = t.length + parN lv e := by
  unfold paren parN
  by_cases h : lv ≤ levelB e
  · rw [if_pos h, if_neg (by omega)]; rfl
  · rw [if_neg h, if_pos (by omega)]; simp
mutual
theorem textb_len : (e : Ex) → (d : Nat) → Fit e d → (textB e).length ≤ 20 * cnt e
  | .num _ n, d, h => by
    simp only [Fit] at h
    simp only [textB, cnt]
    have := itoab_len h.2.1 h.2.2
    omega
  | .var _ s, d, h => by
    simp only [Fit] at h
    simp only [textB, cnt]
    have := h.2.2.2.2
    omega
  | .bin _ op l r, d, h => by
    simp only [Fit] at h
    have ho := opb_len h.1
    have hl : (textB l).length ≤ 20 * cnt l := by
      have h2 := h.2.1
      split at h2
      · exact textb_len l _ h2.2
      · exact textb_len l _ h2
    have hr : (textB r).length ≤ 20 * cnt r := by
      have h2 := h.2.2
      split at h2
      · exact textb_len r _ h2.2
      · exact textb_len r _ h2
    simp only [textB, cnt, List.length_append, parenb_len, List.length_cons, List.length_nil]
    omega
  | .un _ op x, d, h => by
    simp only [Fit] at h
    have ho : op.length = 1 := by rcases h.2.1 with rfl | rfl <;> rfl
    have hx : (textB x).length ≤ 20 * cnt x := by
      have h2 := h.2.2
      split at h2
      · exact textb_len x _ h2.2
      · exact textb_len x _ h2
    simp only [textB, cnt, List.length_append, parenb_len]
    omega
  | .call _ f args, d, h => by
    simp only [Fit] at h
    have h1 := h.2.1.2.2.2
    simp only [textB, cnt, List.length_append, List.length_cons, List.length_nil]
    have : (Lib.join (textsB args) [44, 32]).length ≤ 20 * cnts args := by
      cases args with
      | nil => simp [textsB, Lib.join_nil]
      | cons e r =>
        simp only [Fits] at h
        simp only [textsB, Lib.join_cons, List.length_append]
        have a1 := textb_len e _ h.2.2.1
        have a2 := textbs_len r _ h.2.2.2
        cases r with
        | nil => simp only [textsB, Lib.joinTail, List.map_nil, List.flatten_nil, List.length_nil, cnts]; omega
        | cons e2 r2 =>
          have : cnts (e :: e2 :: r2) = cnt e + (1 + cnts (e2 :: r2)) := rfl
          omega
    omega
  | .new _ x, d, h => by
    simp only [Fit] at h
    have := textb_len x _ h.2
    simp only [textB, cnt, List.length_append, List.length_cons, List.length_nil]
    omega
  | .len _ x, d, h => by
    simp only [Fit] at h
    have := textb_len x _ h.2
    simp only [textB, cnt, List.length_append, List.length_cons, List.length_nil]
    omega
  | .item _ x i, d, h => by
    simp only [Fit] at h
    have hi := textb_len i _ h.2.2
    have hx : (textB x).length ≤ 20 * cnt x := by
      have h2 := h.2.1
      split at h2
      · exact textb_len x _ h2
      · split at h2
        · exact textb_len x _ h2.2
        · exact textb_len x _ h2
    simp only [textB, cnt, List.length_append, List.length_cons, List.length_nil]
    split
    · simp only [List.length_append, List.length_cons, List.length_nil]; omega
    · rw [parenb_len]; omega
  | .input _, d, h => by simp [textB, cnt]
theorem textbs_len : (l : List Ex) → (d : Nat) → Fits l d → (Lib.joinTail [44, 32] (textsB l)).length ≤ 20 * (1 + cnts l)
  | [], d, h => by simp [textsB, Lib.joinTail]
  | e :: r, d, h => by
    simp only [Fits] at h
    have a1 := textb_len e _ h.1
    have a2 := textbs_len r _ h.2
    have ht : Lib.joinTail [44, 32] (textsB (e :: r)) = 44 :: 32 :: (textB e ++ Lib.joinTail [44, 32] (textsB r)) := by
      simp only [textsB, Lib.joinTail, List.map_cons, List.flatten_cons, List.cons_append, List.nil_append]
    rw [ht]
    simp only [List.length_cons, List.length_append]
    cases r with
    | nil => simp only [textsB, Lib.joinTail, List.map_nil, List.flatten_nil, List.length_nil, cnts]; omega
    | cons e2 r2 =>
      have : cnts (e :: e2 :: r2) = cnt e + (1 + cnts (e2 :: r2)) := rfl
      omega
end
mutual
theorem stb_len : (s : St) → (d : Nat) → d ≤ 12 → FitS s d → (tab : List UInt8) → tab.length ≤ 2 * d + 2 → (stB tab s).length ≤ 60 * cntS s
  | .var _ s v, d, hd, h, tab, ht => by
    simp only [FitS] at h
    have := textb_len v _ h.2
    have := h.1.2.2.2
    simp only [stB, cntS, isSp, semi, List.length_append, List.length_cons, List.length_nil]
    omega
  | .set _ s v, d, hd, h, tab, ht => by
    simp only [FitS] at h
    have := textb_len v _ h.2
    have := h.1.2.2.2
    simp only [stB, cntS, isSp, semi, List.length_append, List.length_cons, List.length_nil]
    omega
  | .put _ s i v, d, hd, h, tab, ht => by
    simp only [FitS] at h
    have := textb_len v _ h.2.2
    have := textb_len i _ h.2.1
    have := h.1.2.2.2
    simp only [stB, cntS, isSp, semi, List.length_append, List.length_cons, List.length_nil]
    omega
  | .cond _ v t e, d, hd, h, tab, ht => by
    simp only [FitS] at h
    have := textb_len v _ h.1
    have h1 := stbs_len t (d + 1) h.2.1 h.2.2.1 (tab ++ sp) (by simp [sp]; omega)
    have h2 := stbs_len e (d + 1) h.2.1 h.2.2.2 (tab ++ sp) (by simp [sp]; omega)
    simp only [stB, cntS, List.length_append, List.length_cons, List.length_nil]
    split
    · simp only [List.length_nil]; omega
    · simp only [List.length_append, List.length_cons, List.length_nil]; omega
  | .loop _ v t, d, hd, h, tab, ht => by
    simp only [FitS] at h
    have := textb_len v _ h.1
    have h1 := stbs_len t (d + 1) h.2.1 h.2.2 (tab ++ sp) (by simp [sp]; omega)
    simp only [stB, cntS, List.length_append, List.length_cons, List.length_nil]
    omega
  | .ret _ v, d, hd, h, tab, ht => by
    simp only [FitS] at h
    have := textb_len v _ h
    simp only [stB, cntS, semi, List.length_append, List.length_cons, List.length_nil]
    omega
  | .print _ v, d, hd, h, tab, ht => by
    simp only [FitS] at h
    have := textb_len v _ h
    simp only [stB, cntS, semi, List.length_append, List.length_cons, List.length_nil]
    omega
  | .call _ v, d, hd, h, tab, ht => by
    simp only [FitS] at h
    have := textb_len v _ h.2
    simp only [stB, cntS, semi, List.length_append, List.length_cons, List.length_nil]
    omega
theorem stbs_len : (l : List St) → (d : Nat) → d ≤ 12 → FitSs l d → (tab : List UInt8) → tab.length ≤ 2 * d + 2 → (stsB tab l).length ≤ 60 * cntSs l
  | [], d, hd, h, tab, ht => by simp [stsB]
  | s :: r, d, hd, h, tab, ht => by
    simp only [FitSs] at h
    have h1 := stb_len s d hd h.1 tab ht
    have h2 := stbs_len r d hd h.2 tab ht
    simp only [stsB, cntSs, List.length_append]
    omega
end
theorem paramb_len {p : List UInt8 × Int} (h : NameOk p.1) : (paramB p).length ≤ 17 := by
  have := h.2.2.2
  unfold paramB tyB
  simp only [List.length_append, List.length_cons, List.length_nil]
  split
  · simp only [List.length_cons, List.length_nil]; omega
  · split
    · simp only [List.length_cons, List.length_nil]; omega
    · simp only [List.length_nil]; omega
theorem ptailb_len : (l : List (List UInt8 × Int)) → (∀ p ∈ l, NameOk p.1 ∧ (p.2 = 1 ∨ p.2 = 2)) → (Lib.joinTail [44, 32] (l.map paramB)).length ≤ 20 * (1 + cntPs l)
  | [], h => by simp [Lib.joinTail]
  | p :: r, h => by
    have ht : Lib.joinTail [44, 32] ((p :: r).map paramB) = 44 :: 32 :: (paramB p ++ Lib.joinTail [44, 32] (r.map paramB)) := by
      simp only [Lib.joinTail, List.map_cons, List.flatten_cons, List.cons_append, List.nil_append]
    rw [ht]
    have h1 := paramb_len (h p List.mem_cons_self).1
    have h2 := ptailb_len r (fun q hq => h q (List.mem_cons_of_mem _ hq))
    simp only [List.length_cons, List.length_append]
    cases r with
    | nil => simp only [List.map_nil, Lib.joinTail, List.flatten_nil, List.length_nil, cntPs]; omega
    | cons q r2 =>
      have : cntPs (p :: q :: r2) = 3 + (1 + cntPs (q :: r2)) := rfl
      omega
theorem fnb_len {x : Fn} (h : FitF x) : (fnB x).length ≤ 60 * cntF x := by
  obtain ⟨hn, hp, hb⟩ := h
  have h1 := stbs_len x.body 0 (by omega) hb sp (by simp [sp])
  have h2 := hn.2.2.2
  have h3 : (Lib.join (x.params.map paramB) [44, 32]).length ≤ 20 * cntPs x.params := by
    cases hps : x.params with
    | nil => simp [Lib.join_nil]
    | cons p r =>
      rw [hps] at hp
      have a1 := paramb_len (hp p List.mem_cons_self).1
      have a2 := ptailb_len r (fun q hq => hp q (List.mem_cons_of_mem _ hq))
      simp only [List.map_cons, Lib.join_cons, List.length_append]
      cases r with
      | nil => simp only [List.map_nil, Lib.joinTail, List.flatten_nil, List.length_nil, cntPs]; omega
      | cons q r2 =>
        have : cntPs (p :: q :: r2) = 3 + (1 + cntPs (q :: r2)) := rfl
        omega
  simp only [fnB, cntF, List.length_append, List.length_cons, List.length_nil]
  omega
theorem printb_len : (l : List Fn) → (∀ x ∈ l, FitF x) → (printB l).length ≤ 60 * cntFs l
  | [], h => by simp [printB]
  | x :: r, h => by
    have hp : printB (x :: r) = fnB x ++ printB r := by simp only [printB, List.map_cons, List.flatten_cons]
    have h1 := fnb_len (h x List.mem_cons_self)
    have h2 := printb_len r (fun y hy => h y (List.mem_cons_of_mem _ hy))
    rw [hp, List.length_append]
    simp only [cntFs]
    omega
mutual
theorem fit_num : (e : Ex) → (d : Nat) → Fit e d → NumE e
  | .num _ n, d, h => by simp only [Fit] at h; exact h.2
  | .var _ s, d, h => trivial
  | .bin _ op l r, d, h => by
    simp only [Fit] at h
    refine ⟨?_, ?_⟩
    · have h2 := h.2.1
      split at h2
      · exact fit_num l _ h2.2
      · exact fit_num l _ h2
    · have h2 := h.2.2
      split at h2
      · exact fit_num r _ h2.2
      · exact fit_num r _ h2
  | .un _ op x, d, h => by
    simp only [Fit] at h
    have h2 := h.2.2
    simp only [NumE]
    split at h2
    · exact fit_num x _ h2.2
    · exact fit_num x _ h2
  | .call _ f args, d, h => by simp only [Fit] at h; exact fits_num args _ h.2.2
  | .new _ x, d, h => by simp only [Fit] at h; exact fit_num x _ h.2
  | .len _ x, d, h => by simp only [Fit] at h; exact fit_num x _ h.2
  | .item _ x i, d, h => by
    simp only [Fit] at h
    refine ⟨?_, fit_num i _ h.2.2⟩
    have h2 := h.2.1
    split at h2
    · exact fit_num x _ h2
    · split at h2
      · exact fit_num x _ h2.2
      · exact fit_num x _ h2
  | .input _, d, h => trivial
theorem fits_num : (l : List Ex) → (d : Nat) → Fits l d → NumsE l
  | [], d, h => trivial
  | e :: r, d, h => by simp only [Fits] at h; exact ⟨fit_num e _ h.1, fits_num r _ h.2⟩
end
mutual
theorem fitS_num : (s : St) → (d : Nat) → FitS s d → NumSt s
  | .var _ s v, d, h => by simp only [FitS] at h; exact fit_num v _ h.2
  | .set _ s v, d, h => by simp only [FitS] at h; exact fit_num v _ h.2
  | .put _ s i v, d, h => by simp only [FitS] at h; exact ⟨fit_num i _ h.2.1, fit_num v _ h.2.2⟩
  | .cond _ v t e, d, h => by simp only [FitS] at h; exact ⟨fit_num v _ h.1, fitSs_num t _ h.2.2.1, fitSs_num e _ h.2.2.2⟩
  | .loop _ v t, d, h => by simp only [FitS] at h; exact ⟨fit_num v _ h.1, fitSs_num t _ h.2.2⟩
  | .ret _ v, d, h => by simp only [FitS] at h; exact fit_num v _ h
  | .print _ v, d, h => by simp only [FitS] at h; exact fit_num v _ h
  | .call _ v, d, h => by simp only [FitS] at h; exact fit_num v _ h.2
theorem fitSs_num : (l : List St) → (d : Nat) → FitSs l d → NumSts l
  | [], d, h => trivial
  | s :: r, d, h => by simp only [FitSs] at h; exact ⟨fitS_num s _ h.1, fitSs_num r _ h.2⟩
end
theorem fit_ok {x : Fn} (h : FitF x) : FnOk x := ⟨fun p hp => (h.2.1 p hp).2, fitSs_num x.body 0 h.2.2⟩
/-- What a text is read as. -/
def ReadTo (s : List UInt8) (x : Except (Int × Int) (List Fn)) : Prop := (∃ f n a, lexF f s 0 0 = some (.error (n, a)) ∧ x = .error (n, a)) ∨ (∃ f fp ts y, lexF f s 0 0 = some (.ok ts) ∧ programF fp [] ts = some y ∧ x = dropRest y)
theorem read_any (s : List UInt8) : ∃ x, ReadTo s x := by
  have h1 := lex_runs (s.length + 1) s 0 0 (by omega)
  cases hx : lexF (s.length + 1) s 0 0 with
  | none => exact absurd hx h1
  | some y =>
    cases y with
    | error e => exact ⟨_, Or.inl ⟨_, e.1, e.2, hx, rfl⟩⟩
    | ok ts =>
      have h2 := program_runs (12 * ts.length + 2) [] ts (Nat.le_refl _)
      cases hy : programF (12 * ts.length + 2) [] ts with
      | none => exact absurd hy h2
      | some y => exact ⟨_, Or.inr ⟨_, _, ts, y, hx, hy, rfl⟩⟩
/-- A program that was read. -/
structure Prog (l : List Fn) : Prop where
  fit : ∀ x ∈ l, FitF x
  few : l.length ≤ 12
  cnt : cntFs l ≤ 1500
theorem Prog.ok {l : List Fn} (h : Prog l) : ∀ x ∈ l, FnOk x := fun x hx => fit_ok (h.fit x hx)
theorem Prog.len {l : List Fn} (h : Prog l) : (printB l).length ≤ 100000 := by
  have := printb_len l h.fit
  have := h.cnt
  omega
theorem read_prog {s : List UInt8} {l : List Fn} (h : ReadTo s (.ok l)) : Prog l := by
  rcases h with ⟨f, n, a, h1, h2⟩ | ⟨f, fp, ts, y, h1, h2, h3⟩
  · cases h2
  · cases y with
    | error e => cases h3
    | ok p =>
      obtain ⟨l', r⟩ := p
      cases h3
      obtain ⟨a1, a2⟩ := lex_gives f s 0 0 ts (by omega) h1
      obtain ⟨b1, b2, b3, b4, b5⟩ := program_made fp [] ts a1 (fun _ h => nomatch h) (by simp) h2
      refine ⟨b1, b2, ?_⟩
      have hr : 1 ≤ r.length := by
        obtain ⟨a, ha⟩ := b5.2
        cases r with
        | nil => simp at ha
        | cons _ _ => simp
      simp only [cntFs] at b3
      omega
/-- What a program is written as is read as that program, but for places. -/
theorem Prog.back {l : List Fn} (h : Prog l) : ∃ l', l'.map stripF = l.map stripF ∧ ReadTo (printB l) (.ok l') := by
  obtain ⟨T, p, h1, f, h2⟩ := lexed h.fit (by rw [keysFs_cnt]; exact h.cnt)
  obtain ⟨l', h3, f2, h4⟩ := program_read l [] T ⟨4, [], p⟩ h.fit (by have := h.few; simpa using this) h1 rfl
  exact ⟨l', h3, Or.inr ⟨f, f2, _, _, lexG_lexF _ _ _ _ _ h2, h4 f2 (Nat.le_refl _), rfl⟩⟩
end Go.Proofs.YtdgedlhefjmcpaaGreatDoor.TreeP
namespace Go.Proofs.YtdgedlhefjmcpaaGreatDoor.TreeP
open Go.RowKit Go.Proofs.YtdgedlhefjmcpaaGreatDoor.Wo
set_option linter.unusedVariables false
set_option linter.unusedSimpArgs false
/-- All that lies laid. -/
structure All (W : World) : Prop where
  laid : Laid W
  prn : Prn W
theorem All.next {W W' : World} (h : All W) (hm : Mods None W W') : All W' := ⟨h.laid.next hm, h.prn.next hm⟩
theorem parse_read {s : List UInt8} {x : Except (Int × Int) (List Fn)} (W : World) (hL : All W) (hlen : s.length ≤ 10000000) (h : ReadTo s x) : Calls Tryz.prog 11 #[str s] W (Parsed W x) := by
  rcases h with ⟨f, n, a, h1, rfl⟩ | ⟨f, fp, ts, y, h1, h2, rfl⟩
  · exact parse_bad s f n a W hL.laid hlen h1
  · exact parse_run s f fp ts y W hL.laid hlen h1 h2
/-- A program lies there. -/
def Prg (W : World) (l : List Fn) (v : Value) : Prop := ∃ vs, RowAt W None 33 4 v l.length vs ∧ FnsAt W None l vs
theorem Prg.next {W W' : World} {l : List Fn} {v : Value} (h : Prg W l v) (hm : Mods None W W') : Prg W' l v := by
  obtain ⟨vs, h1, h2⟩ := h
  exact ⟨vs, h1.mods hm (fun _ _ f => f), h2.modsTo hm (fun _ _ f => f)⟩
theorem parse_good {s : List UInt8} {l : List Fn} (W : World) (hL : All W) (hlen : s.length ≤ 10000000) (h : ReadTo s (.ok l)) : Calls Tryz.prog 11 #[str s] W fun e w => ∃ a c, e = .returned (.tuple #[.slice a l.length c, .nilIface]) ∧ Prg w l (.slice a l.length c) ∧ Mods None W w := by
  refine (parse_read W hL hlen h).mono ?_
  rintro e w ⟨v, vs, rfl, h1, h2, hm⟩
  obtain ⟨a, c, rfl⟩ := lex_form h1.1
  exact ⟨a, c, rfl, ⟨vs, h1, h2⟩, hm⟩
theorem print_good {l : List Fn} {v : Value} (W : World) (hL : All W) (hp : Prog l) (h : Prg W l v) : Calls Tryz.prog 23 #[v] W fun e w => e = .returned (.string ⟨(printB l).toArray⟩) ∧ Mods None W w := by
  obtain ⟨vs, h1, h2⟩ := h
  exact print_any l W v vs hL.prn hp.ok h1 h2 (by have := hp.len; omega)
end Go.Proofs.YtdgedlhefjmcpaaGreatDoor.TreeP
