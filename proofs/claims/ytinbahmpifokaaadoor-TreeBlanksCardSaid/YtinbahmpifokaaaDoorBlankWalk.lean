/- The law TreeBlanks walked. Conditions: the variables lie as the program lays them; the second argument reads as a list. -/
import Derived.Test.YtinbahmpifokaaaDoorBackWalk
import Derived.Test.YtinbahmpifokaaaDoorBackBlank
import Derived.Test.YtinbahmpifokaaaDoorNums
namespace Go.Proofs.YtinbahmpifokaaaDoor.TreeP
open Go.RowKit Go.Proofs.YtinbahmpifokaaaDoor.Wo
set_option linter.unusedVariables false
set_option linter.unusedSimpArgs false
theorem pick_any (a n : Int) (W : World) (h1 : 1 ≤ n) (h2 : n ≤ 4611686018427387904) :
    Calls Tryd.prog 9 #[.int .i64 a, .int .i64 n] W fun e W' => e = .returned (.int .i64 (pkn a n)) ∧ W = W' := by
  have hn : IntKind.u64.wrap n = n := by rw [IntKind.wrap_u64]; omega
  have hp := pkn_in a n h1
  have h0 : (n == 0) = false := by simp; omega
  have hr : wrap64 ((IntKind.u64.wrap a).tmod n) = pkn a n := by
    rw [IntKind.wrap_u64, Int.tmod_eq_emod_of_nonneg (by omega)]
    show wrap64 (pkn a n) = pkn a n
    unfold wrap64; omega
  have HR := Lib.hid hr
  clear hr hp
  go_enter Tryd.func9, Tryd.ntmps9
  go_wp2
  go_ret
  refine ⟨?_, rfl⟩
  rw [← HR.out]
  rfl
theorem four_0 (W : World) : Sem.run Tryd.prog (Instr.index 31 (.agg #[.string ⟨#[32]⟩, .string ⟨#[10]⟩, .string ⟨#[9, 32]⟩, .string ⟨#[32, 35, 32, 97, 32, 114, 101, 109, 97, 114, 107, 59, 32, 125, 10]⟩]) (.int .i64 0)) W = .ok (.string ⟨#[32]⟩) W := by kernel_rfl
theorem four_1 (W : World) : Sem.run Tryd.prog (Instr.index 31 (.agg #[.string ⟨#[32]⟩, .string ⟨#[10]⟩, .string ⟨#[9, 32]⟩, .string ⟨#[32, 35, 32, 97, 32, 114, 101, 109, 97, 114, 107, 59, 32, 125, 10]⟩]) (.int .i64 1)) W = .ok (.string ⟨#[10]⟩) W := by kernel_rfl
theorem four_2 (W : World) : Sem.run Tryd.prog (Instr.index 31 (.agg #[.string ⟨#[32]⟩, .string ⟨#[10]⟩, .string ⟨#[9, 32]⟩, .string ⟨#[32, 35, 32, 97, 32, 114, 101, 109, 97, 114, 107, 59, 32, 125, 10]⟩]) (.int .i64 2)) W = .ok (.string ⟨#[9, 32]⟩) W := by kernel_rfl
theorem four_3 (W : World) : Sem.run Tryd.prog (Instr.index 31 (.agg #[.string ⟨#[32]⟩, .string ⟨#[10]⟩, .string ⟨#[9, 32]⟩, .string ⟨#[32, 35, 32, 97, 32, 114, 101, 109, 97, 114, 107, 59, 32, 125, 10]⟩]) (.int .i64 3)) W = .ok (.string ⟨#[32, 35, 32, 97, 32, 114, 101, 109, 97, 114, 107, 59, 32, 125, 10]⟩) W := by kernel_rfl
set_option maxRecDepth 100000 in
set_option maxHeartbeats 4000000 in
theorem treeBlanks_walk (s : List UInt8) (v : Value) (l : List Int) (W : World) (hL : All W) (hv : NumsAt W v l) : Calls Tryd.prog 4 #[str s, v] W fun e w => e = .returned (.bool true) ∧ Mods None W w := by
  obtain ⟨va, vn, vc, rfl, hvn, hvc, hvm, -, -, hcell⟩ := hv
  unfold maxLen at hvm
  by_cases hs : 1000 < s.length
  · clear hL hcell hvn
    unfold str
    go_enter Tryd.func4, Tryd.ntmps4
    go_wp2_with fail
    go_ret
    exact ⟨rfl, Mods.refl _ _⟩
  by_cases hn : 40 < vn
  · clear hL hcell hvn
    unfold str
    go_enter Tryd.func4, Tryd.ntmps4
    go_wp2_with fail
    go_ret
    exact ⟨rfl, Mods.refl _ _⟩
  have HF := Lib.hid (parsed_yes W hL)
  obtain ⟨x, hx⟩ := read_any s
  cases x with
  | error p =>
    have HP := Lib.hid (fun (w : World) (hm : Mods None W w) => parse_read w (hL.next hm) (by omega) hx)
    clear hL hx hcell hvn
    obtain ⟨pn, pa⟩ := p
    unfold str at *
    go_enter Tryd.func4, Tryd.ntmps4
    go_wp2_with fail
    go_at_call 6
    refine HF.out.mono ?_
    rintro e w1 ⟨rfl, hm1⟩
    have HM1 := Lib.hid hm1
    clear hm1
    go_wp2_with fail
    go_at_call 7
    refine (HP.out _ HM1.out).mono ?_
    rintro e w2 ⟨g, rfl, hb, hm2⟩
    have HM2 := Lib.hid (HM1.out.trans hm2)
    clear hb hm2
    go_wp2_with fail
    go_ret
    exact ⟨rfl, HM2.out⟩
  | ok lf =>
    have hp := read_prog hx
    have HP := Lib.hid (fun (w : World) (hm : Mods None W w) => parse_good w (hL.next hm) (by omega) hx)
    by_cases h0 : vn = 0
    · subst h0
      obtain ⟨n, hn2⟩ : ∃ n, n = lf.length := ⟨_, rfl⟩
      rw [← hn2] at HP
      clear hL hx hp hcell hvn hn2
      unfold str at *
      go_enter Tryd.func4, Tryd.ntmps4
      go_wp2_with fail
      go_at_call 6
      refine HF.out.mono ?_
      rintro e w1 ⟨rfl, hm1⟩
      have HM1 := Lib.hid hm1
      clear hm1
      go_wp2_with fail
      go_at_call 7
      refine (HP.out _ HM1.out).mono ?_
      rintro e w2 ⟨a2, c2, rfl, hv2, hm2⟩
      have HM2 := Lib.hid (HM1.out.trans hm2)
      clear hv2 hm2
      go_wp2_with fail
      go_ret
      exact ⟨rfl, HM2.out⟩
    have ht := hp.len
    obtain ⟨hvar, hol, hnl⟩ := bgo_of l (printB lf)
    obtain ⟨l', hs', hx'⟩ := hp.blanks hvar
    have hp' := read_prog hx'
    have htt : printB l' = printB lf := print_strip hs'
    have HP2 := Lib.hid (fun (w : World) (hm : Mods None W w) => parse_good w (hL.next hm) (by omega) hx')
    have HQ := Lib.hid (fun (w : World) (v : Value) (hm : Mods None W w) (hv : Prg w lf v) => print_good w (hL.next hm) hp hv)
    have HQ2 := Lib.hid (fun (w : World) (v : Value) (hm : Mods None W w) (hv : Prg w l' v) => print_good w (hL.next hm) hp' hv)
    rw [htt] at HQ2
    obtain ⟨n, hn1⟩ : ∃ n, n = lf.length := ⟨_, rfl⟩
    obtain ⟨n', hn2⟩ : ∃ n, n = l'.length := ⟨_, rfl⟩
    rw [← hn1] at HP
    rw [← hn2] at HP2
    obtain ⟨t, hte⟩ : ∃ t, t = printB lf := ⟨_, rfl⟩
    rw [← hte] at HQ HQ2 HP2 ht
    have hl0 : 1 ≤ l.length := by omega
    obtain ⟨g0, o0, rfl⟩ : ∃ g o, va = some ⟨g, o, none⟩ := by
      obtain ⟨g, o, h, _⟩ := hcell 0 (l[0]) (List.getElem?_eq_getElem hl0)
      exact ⟨g, o, h⟩
    have HC := Lib.hid (fun (w : World) (hm : Mods None W w) (n : Nat) => (by
      have h1 : n % l.length < l.length := Nat.mod_lt _ hl0
      obtain ⟨g, o, h2, h3⟩ := hcell (n % l.length) (l[n % l.length]) (List.getElem?_eq_getElem h1)
      simp only [Option.some.injEq, Addr.mk.injEq, and_true] at h2
      obtain ⟨rfl, rfl⟩ := h2
      refine ⟨l[n % l.length], h1, hm.cellOf h3 (fun f => f), ?_⟩
      unfold swN
      rw [List.getD_eq_getElem?_getD, List.getElem?_eq_getElem h1, Option.getD_some]
      have := pkn_in l[n % l.length] 4 (by omega)
      omega : ∃ x, n % l.length < l.length ∧ w.cell? ⟨g0, o0 + n % l.length, none⟩ = some (.int .i64 x) ∧ pkn x 4 = swN l n))
    have HB := Lib.hid (fun (i : Nat) => bgo_of l (t.take i))
    have HVN := Lib.hid hvn
    clear hL hx hp hs' hx' hp' htt hn1 hn2 hte hcell hvar hol hnl hvn
    unfold str at *
    go_enter Tryd.func4, Tryd.ntmps4
    go_wp2_with fail
    go_at_call 6
    refine HF.out.mono ?_
    rintro e w1 ⟨rfl, hm1⟩
    have HM1 := Lib.hid hm1
    clear hm1
    go_wp2_with fail
    go_at_call 7
    refine (HP.out _ HM1.out).mono ?_
    rintro e w2 ⟨a2, c2, rfl, hv2, hm2⟩
    have HV2 := Lib.hid hv2
    have HM2 := Lib.hid (HM1.out.trans hm2)
    clear hv2 hm2
    go_wp2_with fail
    go_at_call 8
    refine (HQ.out _ _ HM2.out HV2.out).mono ?_
    rintro e w3 ⟨rfl, hm3⟩
    have HM3 := Lib.hid (HM2.out.trans hm3)
    clear hm3
    go_wp2_with fail
    go_loopw [8, 9, 10] (fun ov nv iv wr => ∃ i : Nat, i ≤ t.length ∧ iv = .int .i64 i ∧ nv = .int .i64 (bgo l (t.take i)).2 ∧ ov = .string ⟨(bgo l (t.take i)).1.toArray⟩ ∧ Hid (Mods None W wr)) (fun _ _ iv _ => (t.length - intOf iv).toNat)
    case atStart => exact ⟨0, Nat.zero_le _, rfl, rfl, rfl, HM3⟩
    case round =>
      obtain ⟨i, hi, rfl, rfl, rfl, HM⟩ := hrel
      obtain ⟨-, hol, hnl⟩ := HB.out i
      obtain ⟨o, ho⟩ : ∃ o, o = (bgo l (t.take i)).1 := ⟨_, rfl⟩
      obtain ⟨nn, hnn⟩ : ∃ nn, nn = (bgo l (t.take i)).2 := ⟨_, rfl⟩
      have hti : (t.take i).length ≤ i := by simp; omega
      rw [← ho] at hol
      rw [← hnn] at hnl
      have hol2 : o.length ≤ 10000000 := by omega
      have hnl2 : nn ≤ 10000000 := by omega
      have HO := Lib.hid ho
      have HNN := Lib.hid hnn
      rw [← ho, ← hnn]
      clear ho hnn hol hnl hti
      have hs1 : ¬ 9223372036854775807 < o.length + 1 := by omega
      have hs2 : ¬ 9223372036854775807 < o.length + 2 := by omega
      have hs15 : ¬ 9223372036854775807 < o.length + 15 := by omega
      by_cases hlt : i < t.length
      · obtain ⟨c, hc⟩ : ∃ c, t[i]? = some c := ⟨t[i], List.getElem?_eq_getElem hlt⟩
        have hix := str_at hc wr
        have hpi : (i : Int) < (t.length : Int) := by omega
        have HG := Lib.hid (bgo_succ l hc)
        obtain ⟨xc, hxc⟩ : ∃ xc : Int, xc = c.toNat := ⟨_, rfl⟩
        rw [← hxc] at hix
        have hx0 : 0 ≤ xc ∧ xc < 256 := by rw [hxc]; have := c.toNat_lt; omega
        by_cases hbl : xc = 32 ∨ xc = 10
        · have HG2 : Hid (bgo l (t.take (i + 1)) = (o ++ sw l nn, nn + 1)) := Lib.hid (by
            rw [HG.out]
            unfold bst
            rw [if_pos (by omega), ← HO.out, ← HNN.out])
          obtain ⟨x, h1, h2, h3⟩ := HC.out wr HM.out nn
          obtain ⟨m, hm⟩ : ∃ m, m = nn % l.length := ⟨_, rfl⟩
          have hmod : (nn : Int).tmod (vn : Int) = (m : Int) := by
            rw [hm, HVN.out, Int.tmod_eq_emod_of_nonneg (by omega)]
            rfl
          rw [← hm] at h1 h2
          have hmv : (m : Int) < (vn : Int) := by have := HVN.out; omega
          have hv0 : ¬ (vn : Int) = 0 := by omega
          have HP3 := Lib.hid h3
          have hsw : (pkn x 4 = 0 ∧ sw l nn = [32]) ∨ (pkn x 4 = 1 ∧ sw l nn = [10]) ∨ (pkn x 4 = 2 ∧ sw l nn = [9, 32]) ∨ (pkn x 4 = 3 ∧ sw l nn = [32, 35, 32, 97, 32, 114, 101, 109, 97, 114, 107, 59, 32, 125, 10]) := by
            have := swN_lt l nn
            rw [h3]
            unfold sw
            obtain h | h | h | h : swN l nn = 0 ∨ swN l nn = 1 ∨ swN l nn = 2 ∨ swN l nn = 3 := by omega
            all_goals rw [h]; simp [blankW]
          clear h3 hm hxc hc
          have f0 := four_0
          have f1 := four_1
          have f2 := four_2
          have f3 := four_3
          rcases hsw with ⟨p1, p2⟩ | ⟨p1, p2⟩ | ⟨p1, p2⟩ | ⟨p1, p2⟩
          all_goals
            have HPK := Lib.hid (pick_any x 4 wr (by omega) (by omega))
            rw [p1] at HPK
            rw [p2] at HG2
            clear p1 p2
            rcases hbl with rfl | rfl
            all_goals
              go_wp2_with fail
              go_at_call 9
              refine HPK.out.mono ?_
              rintro e w4 ⟨rfl, rfl⟩
              go_wp2_with fail
              refine ⟨⟨i + 1, by omega, by go_num, ?_, ?_, HM⟩, by simp [intOf]; omega⟩
              · rw [HG2.out]; go_num
              · rw [HG2.out]; simp [ba_append]
        · have HG2 : Hid (bgo l (t.take (i + 1)) = (o ++ [c], nn)) := Lib.hid (by
            rw [HG.out]
            unfold bst
            rw [if_neg (by omega), ← HO.out, ← HNN.out])
          have hsl : (⟨t.toArray⟩ : ByteArray).extract i (i + 1) = ⟨[c].toArray⟩ := by
            rw [ByteArray.extract_mk]
            have := List.drop_eq_getElem_cons hlt
            rw [List.getElem?_eq_getElem hlt, Option.some.injEq] at hc
            simp [this, hc]
          have n32 : (xc == 32) = false := by simp; omega
          have n10 : (xc == 10) = false := by simp; omega
          clear hbl hxc hc
          go_wp2_with fail
          refine ⟨⟨i + 1, by omega, by go_num, ?_, ?_, HM⟩, by simp [intOf]; omega⟩
          · rw [HG2.out]
          · rw [HG2.out]; simp [ba_append]
      · have hpi : ¬ (i : Int) < (t.length : Int) := by omega
        have hie : i = t.length := by omega
        have ho2 : o = (bgo l t).1 := by
          rw [HO.out, hie, List.take_length]
        have HPO := Lib.hid (HP2.out _ HM.out)
        rw [← ho2] at HPO
        clear ho2 hie
        go_wp2_with fail
        go_at_call 7
        refine HPO.out.mono ?_
        rintro e w4 ⟨a4, c4, rfl, hv4, hm4⟩
        have HV4 := Lib.hid hv4
        have HM4 := Lib.hid (HM.out.trans hm4)
        clear hv4 hm4
        go_wp2_with fail
        go_at_call 8
        refine (HQ2.out _ _ HM4.out HV4.out).mono ?_
        rintro e w5 ⟨rfl, hm5⟩
        have HM5 := Lib.hid (HM4.out.trans hm5)
        clear hm5
        go_wp2_with fail
        go_ret
        exact ⟨rfl, HM5.out⟩
end Go.Proofs.YtinbahmpifokaaaDoor.TreeP
