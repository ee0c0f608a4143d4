/- The law RunPrinted walked. Conditions: the variables lie as the program lays them. -/
import Derived.Test.YtdgedlhefjmcpaaGreatDoorRunRight
import Derived.Deep.QuietTactic
import Derived.BigQuiet
import Derived.Deep.DeepCutAuto
namespace Go.Proofs.YtdgedlhefjmcpaaGreatDoor.TreeP
open Go.RowKit Go.Proofs.YtdgedlhefjmcpaaGreatDoor.Wo
set_option linter.unusedVariables false
set_option linter.unusedSimpArgs false
theorem in_form {W : World} {S : Nat → Prop} {v : Value} {l : List Int} (h : InAt W S v l) : ∃ a c, v = .slice a l.length c ∧ l.length ≤ c ∧ c ≤ 9223372036854775807 := by
  obtain ⟨a', n', c', e, h1, h2, h3, h4⟩ := h
  subst h1
  exact ⟨a', c', e, h2, h3⟩
set_option maxRecDepth 100000 in
set_option maxHeartbeats 1600000 in
theorem runPrinted_walk (s : List UInt8) (iv : Value) (given : List Int) (W : World) (hL : All W) (hs : s.length ≤ 9223372036854775807) (hi : InAt W None iv given) (hi0 : ∀ n c, iv = .slice none n c → c = 0) :
    Calls Tryz.prog 6 #[str s, iv] W fun e w => e = .returned (.bool true) ∧ Mods None W w := by
  obtain ⟨ia, ic, rfl, hic, hic2⟩ := in_form hi
  by_cases h20 : 20 < given.length
  · have h20i : (20 : Int) < (given.length : Int) := by omega
    go_enter Tryz.func6, Tryz.ntmps6
    go_wp2_with fail
    go_ret
    exact ⟨rfl, Mods.refl _ _⟩
  have h20i : ¬ (20 : Int) < (given.length : Int) := by omega
  have HF := Lib.hid (goes_yes W hL)
  have HR := Lib.hid (fun (w : World) (hm : Mods None W w) => right_any s w (hL.next hm) hs)
  have HI := Lib.hid (And.intro hi hi0)
  have HL := Lib.hid hL
  generalize hgn : given.length = gn at *
  have HGN := Lib.hid hgn
  clear hgn hi hi0 hL
  unfold str at *
  go_enter Tryz.func6, Tryz.ntmps6
  go_wp2_with fail
  go_at_call 18
  refine HF.out.mono ?_
  rintro e w1 ⟨rfl, hm1⟩
  have HM1 := Lib.hid hm1
  clear hm1 HF
  go_wp2_with fail
  go_at_call 19
  refine (HR.out _ HM1.out).mono ?_
  rintro e w2 ⟨(⟨L, la, lc, rfl, hrd, hck, hfs, hpg⟩ | ⟨la, ln, lc, rfl⟩), hm2⟩
  rotate_left
  · have HM2 := Lib.hid (HM1.out.trans hm2)
    clear hm2 HR
    go_wp2_with fail
    go_ret
    exact ⟨rfl, HM2.out⟩
  have HM2 := Lib.hid (HM1.out.trans hm2)
  have HFS := Lib.hid hfs
  have hp := read_prog hrd
  obtain ⟨M, hMs, hrM⟩ := hp.back
  have hckM := checkOk_like hMs hck
  obtain ⟨f1, x, hx⟩ := run_soon L given (200 : Int).toNat
  have hx := hx f1 (Nat.le_refl _)
  have hy : runR M f1 given (200 : Int).toNat = some x := by rw [run_strip hMs]; exact hx
  have HP := Lib.hid (print_good w2 (HL.out.next HM2.out) hp hpg)
  have HQ := Lib.hid (fun (w : World) (hm : Mods None W w) => parse_good w (HL.out.next hm) (by have := hp.len; omega) hrM)
  have HRX := Lib.hid (fun (v iv : Value) (w : World) (hv : FsAt w None v L) (hi : InAt w None iv given) (h0 : ∀ n c, iv = .slice none n c → c = 0) => run_good hrd hck _ given 200 _ hx v iv w hv hi h0 (by have := HGN.out; omega) (by omega) (by omega))
  have HRY := Lib.hid (fun (v iv : Value) (w : World) (hv : FsAt w None v M) (hi : InAt w None iv given) (h0 : ∀ n c, iv = .slice none n c → c = 0) => run_good hrM hckM _ given 200 _ hy v iv w hv hi h0 (by have := HGN.out; omega) (by omega) (by omega))
  have HCM := Lib.hid hckM
  generalize L.length = ln at *
  generalize M.length = mn at *
  generalize printB L = pl at *
  clear hm2 HR hfs hpg hp hMs hrM hckM hx hy hrd hck
  unfold str at *
  go_wp2_with fail
  go_at_call 23
  refine HP.out.mono ?_
  rintro e w3 ⟨rfl, hm3⟩
  have HM3 := Lib.hid (HM2.out.trans hm3)
  have HFS3 := Lib.hid (HFS.out.mods hm3 (fun _ _ f => f))
  clear hm3 HP HFS
  go_wp2_with fail
  go_at_call 11
  refine (HQ.out _ HM3.out).mono ?_
  rintro e w4 ⟨ma, mc, rfl, hv4, hm4⟩
  have HM4 := Lib.hid (HM3.out.trans hm4)
  have HFS4 := Lib.hid (HFS3.out.mods hm4 (fun _ _ f => f))
  have HGS4 := Lib.hid hv4.fs
  have HC := Lib.hid (check_yes HCM.out _ w4 hv4.fs)
  clear hm4 HQ HFS3 hv4
  go_wp2_with fail
  go_at_call 12
  refine HC.out.mono ?_
  rintro e w5 ⟨rfl, hm5⟩
  have HM5 := Lib.hid (HM4.out.trans hm5)
  have HFS5 := Lib.hid (HFS4.out.mods hm5 (fun _ _ f => f))
  have HGS5 := Lib.hid (HGS4.out.mods hm5 (fun _ _ f => f))
  clear hm5 HC HFS4 HGS4
  go_wp2_with fail
  go_at_call 20
  refine (HRX.out _ _ _ HFS5.out (HI.out.1.mods HM5.out (fun _ _ f => f)) HI.out.2).mono ?_
  rintro e w6 ⟨u, rfl, hu, hm6⟩
  have HM6 := Lib.hid (HM5.out.trans hm6)
  have HGS6 := Lib.hid (HGS5.out.mods hm6 (fun _ _ f => f))
  have HU := Lib.hid hu
  clear hm6 hu HGS5
  go_wp2_with fail
  go_at_call 20
  refine (HRY.out _ _ _ HGS6.out (HI.out.1.mods HM6.out (fun _ _ f => f)) HI.out.2).mono ?_
  rintro e w7 ⟨u2, rfl, hu2, hm7⟩
  have HM7 := Lib.hid (HM6.out.trans hm7)
  obtain ⟨xa, xc, rfl, hx1, hx2, hx3⟩ := HU.out.mods hm7
  obtain ⟨ya, yc, rfl, hy1, hy2, hy3⟩ := hu2
  clear HU hm7
  obtain ⟨x1, x2, o⟩ := x
  simp only at hx1 hx2 hx3 hy1 hy2 hy3 ⊢
  have hxn : o.length ≤ xc ∧ xc ≤ 9223372036854775807 := by obtain ⟨_, _, e, k1, k2⟩ := in_form hx1; obtain ⟨-, -, rfl⟩ := Value.slice.inj e; exact ⟨k1, k2⟩
  have hyn : o.length ≤ yc ∧ yc ≤ 9223372036854775807 := by obtain ⟨_, _, e, k1, k2⟩ := in_form hy1; obtain ⟨-, -, rfl⟩ := Value.slice.inj e; exact ⟨k1, k2⟩
  obtain ⟨n, hn⟩ : ∃ n, n = o.length := ⟨_, rfl⟩
  rw [← hn] at hx1 hx2 hxn hy1 hy2 hyn ⊢
  have HNO := Lib.hid hn
  have HEQ := Lib.hid (fun (w : World) (hm : Mods None w7 w) => equal_any _ _ o o w (hx1.mods hm (fun _ _ f => f)) (hy1.mods hm (fun _ _ f => f)))
  clear hn hx1 hy1 HRX HRY HFS5 HGS6 HM5 HM6
  obtain ⟨hxn1, hxn2⟩ := hxn
  obtain ⟨hyn1, hyn2⟩ := hyn
  go_wp2_with fail
  go_at_call 24
  refine (HEQ.out _ (((Mods.refl None w7).alloc _).alloc _)).mono ?_
  rintro e w8 ⟨rfl, hm8⟩
  have HM8 := Lib.hid (HM7.out.trans ((((Mods.refl None w7).alloc _).alloc _).trans hm8))
  clear hm8
  rw [beq_self_eq_true]
  go_wp2_with fail
  go_ret
  exact ⟨rfl, HM8.out⟩
end Go.Proofs.YtdgedlhefjmcpaaGreatDoor.TreeP
