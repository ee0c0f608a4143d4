/- The checker's look at any statements. Conditions: its functions, names, and the statements lie. -/
import Derived.Test.YtdgedlhefjmcpaaGreatDoorChkVar
namespace Go.Proofs.YtdgedlhefjmcpaaGreatDoor.TreeP
open Go.RowKit Go.Proofs.YtdgedlhefjmcpaaGreatDoor.Wo
set_option linter.unusedVariables false
set_option linter.unusedSimpArgs false
theorem blockK_nil (L : List Fn) (N : Nm) (m : Nat) : blockK L N m [] = .ok (N, m) := by simp only [blockK, stmtsK, bindK]
theorem blk_nil (L : List Fn) : BlK L [] := block_k (fun s h => nomatch h)
theorem rest_nil {L : List Fn} {N : Nm} {m : Nat} {v : Ex} {r : CK (Nm × Nat)} (h : bindK (wantK L N v 1) (fun _ => .ok (N, m)) = r) : restK L N m v [] [] = r := by
  rw [← h]
  unfold restK
  simp only [blockK_nil]
  rfl
theorem sts_nil (W : World) (S : Nat → Prop) : StsAt W S [] [] := by simp only [StsAt]
mutual
theorem stmtk_all (L : List Fn) : (s : St) → StK L s
  | .var a s v => fun b N m cs W r hC hs hr => by
    simp only [StAt] at hs
    obtain ⟨x, rfl, hx⟩ := hs
    exact stmtk_var a s v b N m x W r hC hx hr
  | .set a s v => fun b N m cs W r hC hs hr => by
    simp only [StAt] at hs
    obtain ⟨x, rfl, hx⟩ := hs
    exact stmtk_set a s v b N m x W r hC hx hr
  | .put a s i v => fun b N m cs W r hC hs hr => by
    simp only [StAt] at hs
    obtain ⟨x, y, rfl, hx, hy⟩ := hs
    exact stmtk_put a s i v b N m x y W r hC hx hy hr
  | .cond a v t e => fun b N m cs W r hC hs hr => by
    simp only [StAt] at hs
    obtain ⟨x, p, vp, q, vq, rfl, hx, h1, h2, h3, h4⟩ := hs
    refine stmtk_rest 4 a (by simp) (block_k (stmtsk_all L t)) (block_k (stmtsk_all L e)) b N m x p q vp vq W r hC hx h1 h2 h3 h4 ?_
    rw [← hr]
    simp only [stmtK, restK, blockK, bindK_assoc]
    rfl
  | .loop a v t => fun b N m cs W r hC hs hr => by
    simp only [StAt] at hs
    obtain ⟨x, p, vp, rfl, hx, h1, h2⟩ := hs
    refine stmtk_rest 5 a (by simp) (block_k (stmtsk_all L t)) (blk_nil L) b N m x p nilS vp [] W r hC hx h1 h2 (row_nil _ _ _ _) (sts_nil _ _) ?_
    rw [← hr]
    simp only [stmtK, restK, blockK_nil]
    simp only [blockK, bindK_assoc]
    rfl
  | .ret a v => fun b N m cs W r hC hs hr => by
    simp only [StAt] at hs
    obtain ⟨x, rfl, hx⟩ := hs
    exact stmtk_rest 6 a (by simp) (blk_nil L) (blk_nil L) b N m x nilS nilS [] [] W r hC hx (row_nil _ _ _ _) (sts_nil _ _) (row_nil _ _ _ _) (sts_nil _ _) (rest_nil (by rw [← hr]; simp only [stmtK]))
  | .print a v => fun b N m cs W r hC hs hr => by
    simp only [StAt] at hs
    obtain ⟨x, rfl, hx⟩ := hs
    exact stmtk_rest 7 a (by simp) (blk_nil L) (blk_nil L) b N m x nilS nilS [] [] W r hC hx (row_nil _ _ _ _) (sts_nil _ _) (row_nil _ _ _ _) (sts_nil _ _) (rest_nil (by rw [← hr]; simp only [stmtK]))
  | .call a v => fun b N m cs W r hC hs hr => by
    simp only [StAt] at hs
    obtain ⟨x, rfl, hx⟩ := hs
    exact stmtk_rest 8 a (by simp) (blk_nil L) (blk_nil L) b N m x nilS nilS [] [] W r hC hx (row_nil _ _ _ _) (sts_nil _ _) (row_nil _ _ _ _) (sts_nil _ _) (rest_nil (by rw [← hr]; simp only [stmtK]))
theorem stmtsk_all (L : List Fn) : (l : List St) → ∀ s ∈ l, StK L s
  | [] => fun s h => nomatch h
  | a :: r => fun s h => (List.mem_cons.1 h).elim (fun h1 => h1 ▸ stmtk_all L a) (stmtsk_all L r s)
end
theorem block_any (L : List Fn) (l : List St) : BlK L l := block_k (stmtsk_all L l)
end Go.Proofs.YtdgedlhefjmcpaaGreatDoor.TreeP
