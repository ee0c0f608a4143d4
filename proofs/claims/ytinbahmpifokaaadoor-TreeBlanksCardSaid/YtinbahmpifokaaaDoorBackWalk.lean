/- Parse and Print as the laws call them; the fact. Conditions: what they read of the package's variables lies as the program lays it. -/
import Derived.Test.YtinbahmpifokaaaDoorBackFact
namespace Go.Proofs.YtinbahmpifokaaaDoor.TreeP
open Go.RowKit Go.Proofs.YtinbahmpifokaaaDoor.Wo
set_option linter.unusedVariables false
set_option linter.unusedSimpArgs false
/-- All that lies laid. -/
structure All (W : World) : Prop where
  laid : Laid W
  prn : Prn W
theorem All.next {W W' : World} (h : All W) (hm : Mods None W W') : All W' := ⟨h.laid.next hm, h.prn.next hm⟩
theorem parse_read {s : List UInt8} {x : Except (Int × Int) (List Fn)} (W : World) (hL : All W) (hlen : s.length ≤ 10000000) (h : ReadTo s x) : Calls Tryd.prog 7 #[str s] W (Parsed W x) := by
  rcases h with ⟨f, n, a, h1, rfl⟩ | ⟨f, fp, ts, y, h1, h2, rfl⟩
  · exact parse_bad s f n a W hL.laid hlen h1
  · exact parse_run s f fp ts y W hL.laid hlen h1 h2
/-- A program lies there. -/
def Prg (W : World) (l : List Fn) (v : Value) : Prop := ∃ vs, RowAt W None 52 4 v l.length vs ∧ FnsAt W None l vs
theorem Prg.next {W W' : World} {l : List Fn} {v : Value} (h : Prg W l v) (hm : Mods None W W') : Prg W' l v := by
  obtain ⟨vs, h1, h2⟩ := h
  exact ⟨vs, h1.mods hm (fun _ _ f => f), h2.modsTo hm (fun _ _ f => f)⟩
theorem parse_good {s : List UInt8} {l : List Fn} (W : World) (hL : All W) (hlen : s.length ≤ 10000000) (h : ReadTo s (.ok l)) : Calls Tryd.prog 7 #[str s] W fun e w => ∃ a c, e = .returned (.tuple #[.slice a l.length c, .nilIface]) ∧ Prg w l (.slice a l.length c) ∧ Mods None W w := by
  refine (parse_read W hL hlen h).mono ?_
  rintro e w ⟨v, vs, rfl, h1, h2, hm⟩
  obtain ⟨a, c, rfl⟩ := lex_form h1.1
  exact ⟨a, c, rfl, ⟨vs, h1, h2⟩, hm⟩
theorem print_good {l : List Fn} {v : Value} (W : World) (hL : All W) (hp : Prog l) (h : Prg W l v) : Calls Tryd.prog 8 #[v] W fun e w => e = .returned (.string ⟨(printB l).toArray⟩) ∧ Mods None W w := by
  obtain ⟨vs, h1, h2⟩ := h
  exact print_any l W v vs hL.prn hp.ok h1 h2 (by have := hp.len; omega)
set_option maxRecDepth 100000 in
set_option maxHeartbeats 1000000 in
theorem parsed_yes (W : World) (hL : All W) : Calls Tryd.prog 6 #[] W fun e w => e = .returned (.bool true) ∧ Mods None W w := by
  obtain ⟨l, hr, hw⟩ := fact_any
  have hstr : str factS = .string { data := #[102, 110, 32, 109, 97, 105, 110, 40, 41, 123, 112, 114, 105, 110, 116, 32, 49, 45, 40, 50, 45, 51, 41, 42, 45, 120, 91, 32, 48, 93, 59, 35, 110, 111, 10, 125] } := rfl
  have HP0 := parse_good W hL (by decide) hr
  rw [hstr] at HP0
  have HP := Lib.hid HP0
  clear HP0 hstr
  have hpr := read_prog hr
  obtain ⟨tx, htx⟩ : ∃ tx : ByteArray, tx = ⟨factT.toArray⟩ := ⟨_, rfl⟩
  have HQ : Hid (∀ (w : World) (v : Value), Mods None W w → Prg w l v → Calls Tryd.prog 8 #[v] w fun e w' => e = .returned (.string tx) ∧ Mods None w w') := Lib.hid (by
    intro w v hm hv
    have := print_good w (hL.next hm) hpr hv
    rw [hw, ← htx] at this
    exact this)
  have HT := Lib.hid htx
  obtain ⟨n, hn⟩ : ∃ n, n = l.length := ⟨_, rfl⟩
  rw [← hn] at HP
  clear hr hw hpr hL htx hn
  go_enter Tryd.func6, Tryd.ntmps6
  go_wp2_with fail
  go_at_call 7
  refine HP.out.mono ?_
  rintro e w1 ⟨a, c, rfl, hv, hm1⟩
  have HV := Lib.hid hv
  have HM1 := Lib.hid hm1
  clear hv hm1
  go_wp2_with fail
  go_at_call 8
  refine (HQ.out _ _ HM1.out HV.out).mono ?_
  rintro e w2 ⟨rfl, hm2⟩
  have HM2 := Lib.hid (HM1.out.trans hm2)
  clear hm2
  have hb : (tx.toList == [102, 110, 32, 109, 97, 105, 110, 40, 41, 32, 123, 10, 32, 32, 112, 114, 105, 110, 116, 32, 49, 32, 45, 32, 40, 50, 32, 45, 32, 51, 41, 32, 42, 32, 45, 120, 91, 48, 93, 59, 10, 125, 10]) = true := by
    rw [HT.out, ByteArray.toList_mk]
    rfl
  have HB := Lib.hid hb
  clear hb
  go_wp2_with fail
  go_ret
  exact ⟨congrArg (fun b => Ending.returned (.bool b)) HB.out, HM2.out⟩
set_option maxRecDepth 100000 in
set_option maxHeartbeats 1000000 in
theorem treeBack_walk (s : List UInt8) (W : World) (hL : All W) : Calls Tryd.prog 3 #[str s] W fun e w => e = .returned (.bool true) ∧ Mods None W w := by
  by_cases hs : 1500 < s.length
  · unfold str
    go_enter Tryd.func3, Tryd.ntmps3
    go_wp2_with fail
    go_ret
    exact ⟨rfl, Mods.refl _ _⟩
  have HF := Lib.hid (parsed_yes W hL)
  have HL := Lib.hid hL
  obtain ⟨x, hx⟩ := read_any s
  cases x with
  | error p =>
    have HP := Lib.hid (fun (w : World) (hm : Mods None W w) => parse_read w (hL.next hm) (by omega) hx)
    clear hL hx
    obtain ⟨pn, pa⟩ := p
    unfold str at *
    go_enter Tryd.func3, Tryd.ntmps3
    go_wp2_with fail
    go_at_call 6
    refine HF.out.mono ?_
    rintro e w1 ⟨rfl, hm1⟩
    have HM1 := Lib.hid hm1
    clear hm1
    go_wp2_with fail
    go_at_call 7
    refine (HP.out _ HM1.out).mono ?_
    rintro e w2 ⟨g, rfl, hb, hm2⟩
    have HM2 := Lib.hid (HM1.out.trans hm2)
    clear hb hm2
    go_wp2_with fail
    go_ret
    exact ⟨rfl, HM2.out⟩
  | ok l =>
    have hp := read_prog hx
    obtain ⟨l', hs', hx'⟩ := hp.back
    have hp' := read_prog hx'
    have ht : printB l' = printB l := print_strip hs'
    have hl : l'.length = l.length := by have := congrArg List.length hs'; simpa using this
    have HP := Lib.hid (fun (w : World) (hm : Mods None W w) => parse_good w (hL.next hm) (by omega) hx)
    have HP2 := Lib.hid (fun (w : World) (hm : Mods None W w) => parse_good w (hL.next hm) (by have := hp.len; omega) hx')
    have HQ := Lib.hid (fun (w : World) (v : Value) (hm : Mods None W w) (hv : Prg w l v) => print_good w (hL.next hm) hp hv)
    have HQ2 := Lib.hid (fun (w : World) (v : Value) (hm : Mods None W w) (hv : Prg w l' v) => print_good w (hL.next hm) hp' hv)
    rw [hl] at HP2
    rw [ht] at HQ2
    obtain ⟨n, hn⟩ : ∃ n, n = l.length := ⟨_, rfl⟩
    rw [← hn] at HP HP2
    obtain ⟨t, htt⟩ : ∃ t, t = printB l := ⟨_, rfl⟩
    rw [← htt] at HP2 HQ HQ2
    clear hL hx hp hs' hx' hp' ht hl hn htt
    unfold str at *
    go_enter Tryd.func3, Tryd.ntmps3
    go_wp2_with fail
    go_at_call 6
    refine HF.out.mono ?_
    rintro e w1 ⟨rfl, hm1⟩
    have HM1 := Lib.hid hm1
    clear hm1
    go_wp2_with fail
    go_at_call 7
    refine (HP.out _ HM1.out).mono ?_
    rintro e w2 ⟨a2, c2, rfl, hv2, hm2⟩
    have HV2 := Lib.hid hv2
    have HM2 := Lib.hid (HM1.out.trans hm2)
    clear hv2 hm2
    go_wp2_with fail
    go_at_call 8
    refine (HQ.out _ _ HM2.out HV2.out).mono ?_
    rintro e w3 ⟨rfl, hm3⟩
    have HM3 := Lib.hid (HM2.out.trans hm3)
    clear hm3
    go_wp2_with fail
    go_at_call 7
    refine (HP2.out _ HM3.out).mono ?_
    rintro e w4 ⟨a4, c4, rfl, hv4, hm4⟩
    have HV4 := Lib.hid hv4
    have HM4 := Lib.hid (HM3.out.trans hm4)
    clear hv4 hm4
    go_wp2_with fail
    go_at_call 8
    refine (HQ2.out _ _ HM4.out HV4.out).mono ?_
    rintro e w5 ⟨rfl, hm5⟩
    have HM5 := Lib.hid (HM4.out.trans hm5)
    clear hm5
    go_wp2_with fail
    go_ret
    exact ⟨rfl, HM5.out⟩
end Go.Proofs.YtinbahmpifokaaaDoor.TreeP
