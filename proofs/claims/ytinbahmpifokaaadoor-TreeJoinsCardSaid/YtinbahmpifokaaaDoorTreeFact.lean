/- How one program is read and written. No program in sight. No conditions. Parse and Print as the laws call them; the fact. Conditions: what they read of the package's variables lies as the program lays it. -/
import Derived.Test.YtinbahmpifokaaaDoorTreeBck
namespace Go.Proofs.YtinbahmpifokaaaDoor.TreeP
set_option linter.unusedVariables false
set_option linter.unusedSimpArgs false
def factS : List UInt8 := [102, 110, 32, 109, 97, 105, 110, 40, 41, 123, 112, 114, 105, 110, 116, 32, 49, 45, 40, 50, 45, 51, 41, 42, 45, 120, 91, 32, 48, 93, 59, 35, 110, 111, 10, 125]
def factT : List UInt8 := [102, 110, 32, 109, 97, 105, 110, 40, 41, 32, 123, 10, 32, 32, 112, 114, 105, 110, 116, 32, 49, 32, 45, 32, 40, 50, 32, 45, 32, 51, 41, 32, 42, 32, 45, 120, 91, 48, 93, 59, 10, 125, 10]
def factK : List Tok := [⟨1, [102, 110], 0⟩, ⟨1, [109, 97, 105, 110], 3⟩, ⟨3, [40], 7⟩, ⟨3, [41], 8⟩, ⟨3, [123], 9⟩, ⟨1, [112, 114, 105, 110, 116], 10⟩, ⟨2, [49], 16⟩, ⟨3, [45], 17⟩, ⟨3, [40], 18⟩, ⟨2, [50], 19⟩, ⟨3, [45], 20⟩, ⟨2, [51], 21⟩, ⟨3, [41], 22⟩, ⟨3, [42], 23⟩, ⟨3, [45], 24⟩, ⟨1, [120], 25⟩, ⟨3, [91], 26⟩, ⟨2, [48], 28⟩, ⟨3, [93], 29⟩, ⟨3, [59], 30⟩, ⟨3, [125], 35⟩, ⟨4, [], 36⟩]
def factL : List Fn := [⟨[109, 97, 105, 110], 0, [], [.print 10 (.bin 16 [45] (.num 16 1) (.bin 18 [42] (.bin 19 [45] (.num 19 2) (.num 21 3)) (.un 24 [45] (.item 25 (.var 25 [120]) (.num 28 0)))))]⟩]
set_option maxRecDepth 100000 in
theorem fact_lex : lexF 60 factS 0 0 = some (.ok factK) := by rfl
theorem small_itoa (n : Nat) (hn : n < 10) : Lib.itoa (n : Int) = [UInt8.ofNat (48 + n)] := by
  unfold Lib.itoa
  rw [if_neg (by omega), show ((n : Int)).toNat = n by omega, Lib.decDigits_one hn]
set_option maxRecDepth 100000 in
theorem fact_writes : printB factL = factT := by
  have h0 : Lib.itoa 0 = [48] := small_itoa 0 (by omega)
  have h1 : Lib.itoa 1 = [49] := small_itoa 1 (by omega)
  have h2 : Lib.itoa 2 = [50] := small_itoa 2 (by omega)
  have h3 : Lib.itoa 3 = [51] := small_itoa 3 (by omega)
  simp [printB, factL, factT, fnB, stsB, stB, textB, h0, h1, h2, h3, paren, levelB, lvlFrom, levelList, isUn, sp, semi, Lib.join_nil, List.contains, List.elem]
theorem fact_keys : (factK.take 21).map key = keysFs factL := by
  have h0 : Lib.itoa 0 = [48] := small_itoa 0 (by omega)
  have h1 : Lib.itoa 1 = [49] := small_itoa 1 (by omega)
  have h2 : Lib.itoa 2 = [50] := small_itoa 2 (by omega)
  have h3 : Lib.itoa 3 = [51] := small_itoa 3 (by omega)
  simp [factK, factL, key, keysFs, keysF, keysPs, keysSs, keysS, keysE, parK, par, h0, h1, h2, h3, levelB, lvlFrom, levelList, isUn, kFn, kPrint, List.contains, List.elem]
theorem fact_fit : ∀ x ∈ factL, FitF x := by
  intro x hx
  rw [show factL = [⟨[109, 97, 105, 110], 0, [], [.print 10 (.bin 16 [45] (.num 16 1) (.bin 18 [42] (.bin 19 [45] (.num 19 2) (.num 21 3)) (.un 24 [45] (.item 25 (.var 25 [120]) (.num 28 0)))))]⟩] from rfl, List.mem_singleton] at hx
  subst hx
  have hm : (∃ k, k < 6 ∧ ([45] : List UInt8) ∈ levelList.getD k []) := ⟨4, by omega, by decide⟩
  have ht : (∃ k, k < 6 ∧ ([42] : List UInt8) ∈ levelList.getD k []) := ⟨5, by omega, by decide⟩
  have n1 : NameOk [109, 97, 105, 110] := ⟨⟨_, _, rfl, rfl⟩, rfl, rfl, by decide⟩
  have n2 : NameOk [120] := ⟨⟨_, _, rfl, rfl⟩, rfl, rfl, by decide⟩
  refine ⟨n1, by simp, ?_⟩
  simp only [FitSs, FitS, Fit, hm, ht, n2, level_of (k := 4) (op := [45]) (by omega) (by decide), level_of (k := 5) (op := [42]) (by omega) (by decide), levelB, isUn]
  simp
/-- How the one program is read and written. -/
theorem fact_any : ∃ l, ReadTo factS (.ok l) ∧ printB l = factT := by
  obtain ⟨l, h1, f, h2⟩ := program_read factL [] (factK.take 21) ⟨4, [], 36⟩ fact_fit (by decide) fact_keys rfl
  exact ⟨l, Or.inr ⟨60, f, factK, _, fact_lex, h2 f (Nat.le_refl _), rfl⟩, (print_strip h1).trans fact_writes⟩
end Go.Proofs.YtinbahmpifokaaaDoor.TreeP
namespace Go.Proofs.YtinbahmpifokaaaDoor.TreeP
open Go.RowKit Go.Proofs.YtinbahmpifokaaaDoor.Wo
set_option linter.unusedVariables false
set_option linter.unusedSimpArgs false
set_option maxRecDepth 100000 in
set_option maxHeartbeats 1000000 in
theorem parsed_yes (W : World) (hL : All W) : Calls Tryd.prog 6 #[] W fun e w => e = .returned (.bool true) ∧ Mods None W w := by
  obtain ⟨l, hr, hw⟩ := fact_any
  have hstr : str factS = .string { data := #[102, 110, 32, 109, 97, 105, 110, 40, 41, 123, 112, 114, 105, 110, 116, 32, 49, 45, 40, 50, 45, 51, 41, 42, 45, 120, 91, 32, 48, 93, 59, 35, 110, 111, 10, 125] } := rfl
  have HP0 := parse_good W hL (by decide) hr
  rw [hstr] at HP0
  have HP := Lib.hid HP0
  clear HP0 hstr
  have hpr := read_prog hr
  obtain ⟨tx, htx⟩ : ∃ tx : ByteArray, tx = ⟨factT.toArray⟩ := ⟨_, rfl⟩
  have HQ : Hid (∀ (w : World) (v : Value), Mods None W w → Prg w l v → Calls Tryd.prog 8 #[v] w fun e w' => e = .returned (.string tx) ∧ Mods None w w') := Lib.hid (by
    intro w v hm hv
    have := print_good w (hL.next hm) hpr hv
    rw [hw, ← htx] at this
    exact this)
  have HT := Lib.hid htx
  obtain ⟨n, hn⟩ : ∃ n, n = l.length := ⟨_, rfl⟩
  rw [← hn] at HP
  clear hr hw hpr hL htx hn
  go_enter Tryd.func6, Tryd.ntmps6
  go_wp2_with fail
  go_at_call 7
  refine HP.out.mono ?_
  rintro e w1 ⟨a, c, rfl, hv, hm1⟩
  have HV := Lib.hid hv
  have HM1 := Lib.hid hm1
  clear hv hm1
  go_wp2_with fail
  go_at_call 8
  refine (HQ.out _ _ HM1.out HV.out).mono ?_
  rintro e w2 ⟨rfl, hm2⟩
  have HM2 := Lib.hid (HM1.out.trans hm2)
  clear hm2
  have hb : (tx.toList == [102, 110, 32, 109, 97, 105, 110, 40, 41, 32, 123, 10, 32, 32, 112, 114, 105, 110, 116, 32, 49, 32, 45, 32, 40, 50, 32, 45, 32, 51, 41, 32, 42, 32, 45, 120, 91, 48, 93, 59, 10, 125, 10]) = true := by
    rw [HT.out, ByteArray.toList_mk]
    rfl
  have HB := Lib.hid hb
  clear hb
  go_wp2_with fail
  go_ret
  exact ⟨congrArg (fun b => Ending.returned (.bool b)) HB.out, HM2.out⟩
set_option maxRecDepth 100000 in
set_option maxHeartbeats 1000000 in
theorem treeBack_walk (s : List UInt8) (W : World) (hL : All W) : Calls Tryd.prog 3 #[str s] W fun e w => e = .returned (.bool true) ∧ Mods None W w := by
  by_cases hs : 1500 < s.length
  · unfold str
    go_enter Tryd.func3, Tryd.ntmps3
    go_wp2_with fail
    go_ret
    exact ⟨rfl, Mods.refl _ _⟩
  have HF := Lib.hid (parsed_yes W hL)
  have HL := Lib.hid hL
  obtain ⟨x, hx⟩ := read_any s
  cases x with
  | error p =>
    have HP := Lib.hid (fun (w : World) (hm : Mods None W w) => parse_read w (hL.next hm) (by omega) hx)
    clear hL hx
    obtain ⟨pn, pa⟩ := p
    unfold str at *
    go_enter Tryd.func3, Tryd.ntmps3
    go_wp2_with fail
    go_at_call 6
    refine HF.out.mono ?_
    rintro e w1 ⟨rfl, hm1⟩
    have HM1 := Lib.hid hm1
    clear hm1
    go_wp2_with fail
    go_at_call 7
    refine (HP.out _ HM1.out).mono ?_
    rintro e w2 ⟨g, rfl, hb, hm2⟩
    have HM2 := Lib.hid (HM1.out.trans hm2)
    clear hb hm2
    go_wp2_with fail
    go_ret
    exact ⟨rfl, HM2.out⟩
  | ok l =>
    have hp := read_prog hx
    obtain ⟨l', hs', hx'⟩ := hp.back
    have hp' := read_prog hx'
    have ht : printB l' = printB l := print_strip hs'
    have hl : l'.length = l.length := by have := congrArg List.length hs'; simpa using this
    have HP := Lib.hid (fun (w : World) (hm : Mods None W w) => parse_good w (hL.next hm) (by omega) hx)
    have HP2 := Lib.hid (fun (w : World) (hm : Mods None W w) => parse_good w (hL.next hm) (by have := hp.len; omega) hx')
    have HQ := Lib.hid (fun (w : World) (v : Value) (hm : Mods None W w) (hv : Prg w l v) => print_good w (hL.next hm) hp hv)
    have HQ2 := Lib.hid (fun (w : World) (v : Value) (hm : Mods None W w) (hv : Prg w l' v) => print_good w (hL.next hm) hp' hv)
    rw [hl] at HP2
    rw [ht] at HQ2
    obtain ⟨n, hn⟩ : ∃ n, n = l.length := ⟨_, rfl⟩
    rw [← hn] at HP HP2
    obtain ⟨t, htt⟩ : ∃ t, t = printB l := ⟨_, rfl⟩
    rw [← htt] at HP2 HQ HQ2
    clear hL hx hp hs' hx' hp' ht hl hn htt
    unfold str at *
    go_enter Tryd.func3, Tryd.ntmps3
    go_wp2_with fail
    go_at_call 6
    refine HF.out.mono ?_
    rintro e w1 ⟨rfl, hm1⟩
    have HM1 := Lib.hid hm1
    clear hm1
    go_wp2_with fail
    go_at_call 7
    refine (HP.out _ HM1.out).mono ?_
    rintro e w2 ⟨a2, c2, rfl, hv2, hm2⟩
    have HV2 := Lib.hid hv2
    have HM2 := Lib.hid (HM1.out.trans hm2)
    clear hv2 hm2
    go_wp2_with fail
    go_at_call 8
    refine (HQ.out _ _ HM2.out HV2.out).mono ?_
    rintro e w3 ⟨rfl, hm3⟩
    have HM3 := Lib.hid (HM2.out.trans hm3)
    clear hm3
    go_wp2_with fail
    go_at_call 7
    refine (HP2.out _ HM3.out).mono ?_
    rintro e w4 ⟨a4, c4, rfl, hv4, hm4⟩
    have HV4 := Lib.hid hv4
    have HM4 := Lib.hid (HM3.out.trans hm4)
    clear hv4 hm4
    go_wp2_with fail
    go_at_call 8
    refine (HQ2.out _ _ HM4.out HV4.out).mono ?_
    rintro e w5 ⟨rfl, hm5⟩
    have HM5 := Lib.hid (HM4.out.trans hm5)
    clear hm5
    go_wp2_with fail
    go_ret
    exact ⟨rfl, HM5.out⟩
end Go.Proofs.YtinbahmpifokaaaDoor.TreeP
