/- The law TreeJoins walked. Conditions: the variables lie as the program lays them. -/
import Derived.Test.YtinbahmpifokaaaDoorTreeFact
import Derived.Test.YtinbahmpifokaaaDoorJoin
import Derived.Test.YtinbahmpifokaaaDoorErrAt
namespace Go.Proofs.YtinbahmpifokaaaDoor.TreeP
open Go.RowKit Go.Proofs.YtinbahmpifokaaaDoor.Wo
set_option linter.unusedVariables false
set_option linter.unusedSimpArgs false
/-- What Parse tells, whatever it is. -/
theorem parse_some (s : List UInt8) (W : World) (hL : All W) (hlen : s.length ≤ 10000000) : Calls Tryd.prog 7 #[str s] W fun e w => ∃ av ev, e = .returned (.tuple #[av, ev]) ∧ Mods None W w := by
  obtain ⟨x, hx⟩ := read_any s
  cases x with
  | error p =>
    refine (parse_read W hL hlen hx).mono ?_
    rintro e w ⟨g, rfl, _, hm⟩
    exact ⟨_, _, rfl, hm⟩
  | ok l =>
    refine (parse_read W hL hlen hx).mono ?_
    rintro e w ⟨v, vs, rfl, _, _, hm⟩
    exact ⟨_, _, rfl, hm⟩
set_option maxRecDepth 100000 in
set_option maxHeartbeats 4000000 in
theorem treeJoins_walk (s u : List UInt8) (W : World) (hL : All W) (hE : ErrP.ErrLaid W) : Calls Tryd.prog 5 #[str s, str u] W fun e w => e = .returned (.bool true) ∧ Mods None W w := by
  by_cases hs : 1000 < s.length
  · clear hL hE
    unfold str
    go_enter Tryd.func5, Tryd.ntmps5
    go_wp2_with fail
    go_ret
    exact ⟨rfl, Mods.refl _ _⟩
  by_cases hu : 1000 < u.length
  · clear hL hE
    unfold str
    go_enter Tryd.func5, Tryd.ntmps5
    go_wp2_with fail
    go_ret
    exact ⟨rfl, Mods.refl _ _⟩
  by_cases hsu : 1400 < (s.length : Int) + (u.length : Int)
  · clear hL hE
    unfold str
    go_enter Tryd.func5, Tryd.ntmps5
    go_wp2_with fail
    go_ret
    exact ⟨rfl, Mods.refl _ _⟩
  have HF := Lib.hid (parsed_yes W hL)
  have hcat : (⟨s.toArray⟩ : ByteArray) ++ ⟨#[10]⟩ ++ ⟨u.toArray⟩ = ⟨(s ++ 10 :: u).toArray⟩ := by
    rw [show (⟨#[10]⟩ : ByteArray) = ⟨([10] : List UInt8).toArray⟩ from rfl, ba_append, ba_append, List.append_assoc]
    rfl
  have HCAT := Lib.hid hcat
  have hl1 : (s ++ 10 :: u).length ≤ 10000000 := by simp only [List.length_append, List.length_cons]; omega
  have k1 : ¬ 9223372036854775807 < s.length + 1 := by omega
  have k2 : ¬ 9223372036854775807 < s.length + 1 + u.length := by omega
  obtain ⟨x, hx⟩ := read_any s
  obtain ⟨y, hy⟩ := read_any u
  have HA := Lib.hid (fun (w : World) (hm : Mods None W w) => parse_some (s ++ 10 :: u) w (hL.next hm) hl1)
  have HU := Lib.hid (fun (w : World) (hm : Mods None W w) => parse_some u w (hL.next hm) (by omega))
  cases x with
  | error p =>
    have HP := Lib.hid (fun (w : World) (hm : Mods None W w) => parse_read w (hL.next hm) (by omega) hx)
    clear hL hE hx hy hcat hl1
    obtain ⟨pn, pa⟩ := p
    unfold str at *
    go_enter Tryd.func5, Tryd.ntmps5
    go_wp2_with fail
    go_at_call 6
    refine HF.out.mono ?_
    rintro e w1 ⟨rfl, hm1⟩
    have HM1 := Lib.hid hm1
    clear hm1
    go_wp2_with fail
    go_at_call 7
    refine (HP.out _ HM1.out).mono ?_
    rintro e w2 ⟨g, rfl, hb, hm2⟩
    have HM2 := Lib.hid (HM1.out.trans hm2)
    clear hb hm2
    go_wp2_with fail
    go_at_call 7
    refine (HU.out _ HM2.out).mono ?_
    rintro e w3 ⟨av3, ev3, rfl, hm3⟩
    have HM3 := Lib.hid (HM2.out.trans hm3)
    clear hm3
    go_wp2_with fail
    go_at_call 7
    rw [HCAT.out]
    refine (HA.out _ HM3.out).mono ?_
    rintro e w4 ⟨av4, ev4, rfl, hm4⟩
    have HM4 := Lib.hid (HM3.out.trans hm4)
    clear hm4
    go_wp2_with fail
    go_ret
    exact ⟨rfl, HM4.out⟩
  | ok a =>
    have hpa := read_prog hx
    have HP := Lib.hid (fun (w : World) (hm : Mods None W w) => parse_good w (hL.next hm) (by omega) hx)
    cases y with
    | error p =>
      have HPU := Lib.hid (fun (w : World) (hm : Mods None W w) => parse_read w (hL.next hm) (by omega) hy)
      clear HU hL hE hx hy hcat hl1 hpa
      obtain ⟨pn, pa⟩ := p
      unfold str at *
      go_enter Tryd.func5, Tryd.ntmps5
      go_wp2_with fail
      go_at_call 6
      refine HF.out.mono ?_
      rintro e w1 ⟨rfl, hm1⟩
      have HM1 := Lib.hid hm1
      clear hm1
      go_wp2_with fail
      go_at_call 7
      refine (HP.out _ HM1.out).mono ?_
      rintro e w2 ⟨a2, c2, rfl, hv2, hm2⟩
      have HM2 := Lib.hid (HM1.out.trans hm2)
      clear hv2 hm2
      go_wp2_with fail
      go_at_call 7
      refine (HPU.out _ HM2.out).mono ?_
      rintro e w3 ⟨g, rfl, hb, hm3⟩
      have HM3 := Lib.hid (HM2.out.trans hm3)
      clear hb hm3
      go_wp2_with fail
      go_at_call 7
      rw [HCAT.out]
      refine (HA.out _ HM3.out).mono ?_
      rintro e w4 ⟨av4, ev4, rfl, hm4⟩
      have HM4 := Lib.hid (HM3.out.trans hm4)
      clear hm4
      go_wp2_with fail
      go_ret
      exact ⟨rfl, HM4.out⟩
    | ok b =>
      have hpb := read_prog hy
      have HPU := Lib.hid (fun (w : World) (hm : Mods None W w) => parse_good w (hL.next hm) (by omega) hy)
      obtain ⟨j1, j2⟩ := read_joins hx hy (by omega)
      have hna := hpa.few
      have hnb := hpb.few
      have hla := hpa.len
      have hlb := hpb.len
      have HQA := Lib.hid (fun (w : World) (v : Value) (hm : Mods None W w) (hv : Prg w a v) => print_good w (hL.next hm) hpa hv)
      have HQB := Lib.hid (fun (w : World) (v : Value) (hm : Mods None W w) (hv : Prg w b v) => print_good w (hL.next hm) hpb hv)
      have HEL := Lib.hid (fun (w : World) (hm : Mods None W w) => (hm.cellOf hE (fun f => f) : ErrP.ErrLaid w))
      obtain ⟨n, hn⟩ : ∃ n, n = a.length := ⟨_, rfl⟩
      obtain ⟨m, hmm⟩ : ∃ m, m = b.length := ⟨_, rfl⟩
      obtain ⟨ta, hta⟩ : ∃ t, t = printB a := ⟨_, rfl⟩
      obtain ⟨tb, htb⟩ : ∃ t, t = printB b := ⟨_, rfl⟩
      rw [← hn] at HP hna j1 j2
      rw [← hmm] at HPU hnb j1 j2
      rw [← hta] at HQA j1 hla
      rw [← htb] at HQB j1 hlb
      by_cases h12 : 12 < n + m
      · obtain ⟨p, hp⟩ := j2 h12
        have h12i : (12 : Int) < (n : Int) + (m : Int) := by omega
        have HPC := Lib.hid (fun (w : World) (hm : Mods None W w) => parse_read w (hL.next hm) hl1 hp)
        clear HU HA hL hE hx hy hcat hl1 hpa hpb j1 j2 hp hn hmm hta htb h12
        unfold str at *
        go_enter Tryd.func5, Tryd.ntmps5
        go_wp2_with fail
        go_at_call 6
        refine HF.out.mono ?_
        rintro e w1 ⟨rfl, hm1⟩
        have HM1 := Lib.hid hm1
        clear hm1
        go_wp2_with fail
        go_at_call 7
        refine (HP.out _ HM1.out).mono ?_
        rintro e w2 ⟨a2, c2, rfl, hv2, hm2⟩
        have HM2 := Lib.hid (HM1.out.trans hm2)
        clear hv2 hm2
        go_wp2_with fail
        go_at_call 7
        refine (HPU.out _ HM2.out).mono ?_
        rintro e w3 ⟨a3, c3, rfl, hv3, hm3⟩
        have HM3 := Lib.hid (HM2.out.trans hm3)
        clear hv3 hm3
        go_wp2_with fail
        go_at_call 7
        rw [HCAT.out]
        refine (HPC.out _ HM3.out).mono ?_
        rintro e w4 ⟨g, rfl, hb, hm4⟩
        have HM4 := Lib.hid (HM3.out.trans hm4)
        have HB := Lib.hid hb
        clear hb hm4
        go_wp2_with fail
        go_at_call 10
        refine (ErrP.tell_at _ _ _ _ (HEL.out _ HM4.out) HB.out).mono ?_
        rintro e w5 ⟨rfl, hm5⟩
        have HM5 := Lib.hid (HM4.out.trans hm5)
        clear hm5
        go_wp2_with fail
        go_ret
        exact ⟨rfl, HM5.out⟩
      · obtain ⟨c, hc, hcp, hcl⟩ := j1 (by omega)
        have hpc := read_prog hc
        have h12i : ¬ (12 : Int) < (n : Int) + (m : Int) := by omega
        have HPC := Lib.hid (fun (w : World) (hm : Mods None W w) => parse_good w (hL.next hm) hl1 hc)
        have HQC := Lib.hid (fun (w : World) (v : Value) (hm : Mods None W w) (hv : Prg w c v) => print_good w (hL.next hm) hpc hv)
        rw [hcp] at HQC
        have hcat2 : (⟨ta.toArray⟩ : ByteArray) ++ ⟨tb.toArray⟩ = ⟨(ta ++ tb).toArray⟩ := ba_append _ _
        have k3 : ¬ 9223372036854775807 < ta.length + tb.length := by omega
        obtain ⟨nc, hnc⟩ : ∃ n, n = c.length := ⟨_, rfl⟩
        rw [← hnc] at HPC
        clear HU HA hL hE hx hy hcat hl1 hpa hpb j1 j2 hc hcp hcl hpc hn hmm hta htb h12 hnc
        unfold str at *
        go_enter Tryd.func5, Tryd.ntmps5
        go_wp2_with fail
        go_at_call 6
        refine HF.out.mono ?_
        rintro e w1 ⟨rfl, hm1⟩
        have HM1 := Lib.hid hm1
        clear hm1
        go_wp2_with fail
        go_at_call 7
        refine (HP.out _ HM1.out).mono ?_
        rintro e w2 ⟨a2, c2, rfl, hv2, hm2⟩
        have HV2 := Lib.hid hv2
        have HM2 := Lib.hid (HM1.out.trans hm2)
        clear hv2 hm2
        go_wp2_with fail
        go_at_call 7
        refine (HPU.out _ HM2.out).mono ?_
        rintro e w3 ⟨a3, c3, rfl, hv3, hm3⟩
        have HV2' := Lib.hid (HV2.out.next hm3)
        have HV3 := Lib.hid hv3
        have HM3 := Lib.hid (HM2.out.trans hm3)
        clear hv3 hm3 HV2
        go_wp2_with fail
        go_at_call 7
        rw [HCAT.out]
        refine (HPC.out _ HM3.out).mono ?_
        rintro e w4 ⟨a4, c4, rfl, hv4, hm4⟩
        have HV2 := Lib.hid (HV2'.out.next hm4)
        have HV3' := Lib.hid (HV3.out.next hm4)
        have HV4 := Lib.hid hv4
        have HM4 := Lib.hid (HM3.out.trans hm4)
        clear hv4 hm4 HV3 HV2'
        go_wp2_with fail
        go_at_call 8
        refine (HQC.out _ _ HM4.out HV4.out).mono ?_
        rintro e w5 ⟨rfl, hm5⟩
        have HV2' := Lib.hid (HV2.out.next hm5)
        have HV3 := Lib.hid (HV3'.out.next hm5)
        have HM5 := Lib.hid (HM4.out.trans hm5)
        clear hm5 HV2 HV3'
        go_wp2_with fail
        go_at_call 8
        refine (HQA.out _ _ HM5.out HV2'.out).mono ?_
        rintro e w6 ⟨rfl, hm6⟩
        have HV3' := Lib.hid (HV3.out.next hm6)
        have HM6 := Lib.hid (HM5.out.trans hm6)
        clear hm6 HV2' HV3
        go_wp2_with fail
        go_at_call 8
        refine (HQB.out _ _ HM6.out HV3'.out).mono ?_
        rintro e w7 ⟨rfl, hm7⟩
        have HM7 := Lib.hid (HM6.out.trans hm7)
        clear hm7 HV3'
        go_wp2_with fail
        go_ret
        exact ⟨rfl, HM7.out⟩
end Go.Proofs.YtinbahmpifokaaaDoor.TreeP
