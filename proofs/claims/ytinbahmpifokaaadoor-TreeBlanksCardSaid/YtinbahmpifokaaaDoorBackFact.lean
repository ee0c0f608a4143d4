/- How one program is read and written. No program in sight. No conditions. -/
import Derived.Test.YtinbahmpifokaaaDoorBackSize
namespace Go.Proofs.YtinbahmpifokaaaDoor.TreeP
set_option linter.unusedVariables false
set_option linter.unusedSimpArgs false
def factS : List UInt8 := [102, 110, 32, 109, 97, 105, 110, 40, 41, 123, 112, 114, 105, 110, 116, 32, 49, 45, 40, 50, 45, 51, 41, 42, 45, 120, 91, 32, 48, 93, 59, 35, 110, 111, 10, 125]
def factT : List UInt8 := [102, 110, 32, 109, 97, 105, 110, 40, 41, 32, 123, 10, 32, 32, 112, 114, 105, 110, 116, 32, 49, 32, 45, 32, 40, 50, 32, 45, 32, 51, 41, 32, 42, 32, 45, 120, 91, 48, 93, 59, 10, 125, 10]
def factK : List Tok := [⟨1, [102, 110], 0⟩, ⟨1, [109, 97, 105, 110], 3⟩, ⟨3, [40], 7⟩, ⟨3, [41], 8⟩, ⟨3, [123], 9⟩, ⟨1, [112, 114, 105, 110, 116], 10⟩, ⟨2, [49], 16⟩, ⟨3, [45], 17⟩, ⟨3, [40], 18⟩, ⟨2, [50], 19⟩, ⟨3, [45], 20⟩, ⟨2, [51], 21⟩, ⟨3, [41], 22⟩, ⟨3, [42], 23⟩, ⟨3, [45], 24⟩, ⟨1, [120], 25⟩, ⟨3, [91], 26⟩, ⟨2, [48], 28⟩, ⟨3, [93], 29⟩, ⟨3, [59], 30⟩, ⟨3, [125], 35⟩, ⟨4, [], 36⟩]
def factL : List Fn := [⟨[109, 97, 105, 110], 0, [], [.print 10 (.bin 16 [45] (.num 16 1) (.bin 18 [42] (.bin 19 [45] (.num 19 2) (.num 21 3)) (.un 24 [45] (.item 25 (.var 25 [120]) (.num 28 0)))))]⟩]
set_option maxRecDepth 100000 in
theorem fact_lex : lexF 60 factS 0 0 = some (.ok factK) := by rfl
theorem small_itoa (n : Nat) (hn : n < 10) : Lib.itoa (n : Int) = [UInt8.ofNat (48 + n)] := by
  unfold Lib.itoa
  rw [if_neg (by omega), show ((n : Int)).toNat = n by omega, Lib.decDigits_one hn]
set_option maxRecDepth 100000 in
theorem fact_writes : printB factL = factT := by
  have h0 : Lib.itoa 0 = [48] := small_itoa 0 (by omega)
  have h1 : Lib.itoa 1 = [49] := small_itoa 1 (by omega)
  have h2 : Lib.itoa 2 = [50] := small_itoa 2 (by omega)
  have h3 : Lib.itoa 3 = [51] := small_itoa 3 (by omega)
  simp [printB, factL, factT, fnB, stsB, stB, textB, h0, h1, h2, h3, paren, levelB, lvlFrom, levelList, isUn, sp, semi, Lib.join_nil, List.contains, List.elem]
theorem fact_keys : (factK.take 21).map key = keysFs factL := by
  have h0 : Lib.itoa 0 = [48] := small_itoa 0 (by omega)
  have h1 : Lib.itoa 1 = [49] := small_itoa 1 (by omega)
  have h2 : Lib.itoa 2 = [50] := small_itoa 2 (by omega)
  have h3 : Lib.itoa 3 = [51] := small_itoa 3 (by omega)
  simp [factK, factL, key, keysFs, keysF, keysPs, keysSs, keysS, keysE, parK, par, h0, h1, h2, h3, levelB, lvlFrom, levelList, isUn, kFn, kPrint, List.contains, List.elem]
theorem fact_fit : ∀ x ∈ factL, FitF x := by
  intro x hx
  rw [show factL = [⟨[109, 97, 105, 110], 0, [], [.print 10 (.bin 16 [45] (.num 16 1) (.bin 18 [42] (.bin 19 [45] (.num 19 2) (.num 21 3)) (.un 24 [45] (.item 25 (.var 25 [120]) (.num 28 0)))))]⟩] from rfl, List.mem_singleton] at hx
  subst hx
  have hm : (∃ k, k < 6 ∧ ([45] : List UInt8) ∈ levelList.getD k []) := ⟨4, by omega, by decide⟩
  have ht : (∃ k, k < 6 ∧ ([42] : List UInt8) ∈ levelList.getD k []) := ⟨5, by omega, by decide⟩
  have n1 : NameOk [109, 97, 105, 110] := ⟨⟨_, _, rfl, rfl⟩, rfl, rfl, by decide⟩
  have n2 : NameOk [120] := ⟨⟨_, _, rfl, rfl⟩, rfl, rfl, by decide⟩
  refine ⟨n1, by simp, ?_⟩
  simp only [FitSs, FitS, Fit, hm, ht, n2, level_of (k := 4) (op := [45]) (by omega) (by decide), level_of (k := 5) (op := [42]) (by omega) (by decide), levelB, isUn]
  simp
/-- How the one program is read and written. -/
theorem fact_any : ∃ l, ReadTo factS (.ok l) ∧ printB l = factT := by
  obtain ⟨l, h1, f, h2⟩ := program_read factL [] (factK.take 21) ⟨4, [], 36⟩ fact_fit (by decide) fact_keys rfl
  exact ⟨l, Or.inr ⟨60, f, factK, _, fact_lex, h2 f (Nat.le_refl _), rfl⟩, (print_strip h1).trans fact_writes⟩
end Go.Proofs.YtinbahmpifokaaaDoor.TreeP
