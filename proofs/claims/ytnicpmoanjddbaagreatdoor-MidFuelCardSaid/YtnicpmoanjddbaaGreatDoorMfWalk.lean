/- The fact of mid's laws: a program's steps that end as it does. Conditions: the tables lie. The law MidFuel walked. Conditions: the tables lie. -/
import Derived.Test.YtnicpmoanjddbaaGreatDoorLowP
import Derived.Test.YtnicpmoanjddbaaGreatDoorLowL
import Derived.Test.YtnicpmoanjddbaaGreatDoorTreePar
import Derived.Test.YtnicpmoanjddbaaGreatDoorChkRun
import Derived.Test.YtnicpmoanjddbaaGreatDoorMidRn
import Derived.Test.YtnicpmoanjddbaaGreatDoorMidEq
import Derived.Test.YtnicpmoanjddbaaGreatDoorMidOpen
import Derived.Test.YtnicpmoanjddbaaGreatDoorSmall
import Derived.Test.YtnicpmoanjddbaaGreatDoorMidMore
import Derived.Deep.QuietTactic
import Derived.BigQuiet
import Derived.Deep.DeepCutAuto
import Derived.Deep.RegionHeld3
namespace Go.Proofs.YtnicpmoanjddbaaGreatDoor.MidP
open Go.RowKit Go.Proofs.YtnicpmoanjddbaaGreatDoor.Wo Go.Maps Go.Proofs.YtnicpmoanjddbaaGreatDoor.TreeP
set_option linter.unusedVariables false
set_option linter.unusedSimpArgs false
set_option maxRecDepth 100000 in
theorem mf_parse (W : World) (hL : TreeP.Laid W) : Calls Tryz.prog 13 #[TreeP.str mfS] W fun e w => ∃ a c, e = .returned (.tuple #[.slice a 2 c, .nilIface]) ∧ FsAt w None (.slice a 2 c) mfL ∧ Mods None W w := by
  have h := parse_run mfS 300 900 mfT _ W hL (by decide) mf_lex mf_prog
  refine h.mono ?_
  rintro e w ⟨v, vs, rfl, h1, h2, hm⟩
  obtain ⟨a, c, rfl⟩ := low_form h1.1
  exact ⟨a, c, rfl, fs_of_row h1.1 h2 (fun _ _ f => f), hm⟩
theorem mf_lower (W : World) (v : Value) (hL : FsAt W None v mfL) : Calls Tryz.prog 14 #[v] W (LowerP W mfL) := by
  refine lower_ok mfL v W hL mf_ok (by decide) ?_
  refine (check_any mfL v W hL).mono ?_
  have hr : checkR mfL = .ok true := mf_check
  rw [hr]
  exact fun e w h => h
theorem n64_small {a : Int} (h1 : -1000 ≤ a) (h2 : a ≤ 1000) : I64 a := by unfold I64; omega
def smallSt (s : Stp) : Bool := decide (-1000 ≤ s.code ∧ s.code ≤ 1000) && decide (-1000 ≤ s.dst ∧ s.dst ≤ 1000) && decide (-1000 ≤ s.a ∧ s.a ≤ 1000) && decide (-1000 ≤ s.b ∧ s.b ≤ 1000) && decide (-1000 ≤ s.c ∧ s.c ≤ 1000) && decide (-1000 ≤ s.n ∧ s.n ≤ 1000) && decide (-1000 ≤ s.label ∧ s.label ≤ 1000) && decide (s.op.length ≤ 1000) && decide (s.name.length ≤ 1000) && s.args.all (fun x => decide (-1000 ≤ x ∧ x ≤ 1000))
def smallFm (f : Fm) : Bool := decide (f.name.length ≤ 1000) && decide (-1000 ≤ f.params ∧ f.params ≤ 1000) && f.types.all (fun x => decide (-1000 ≤ x ∧ x ≤ 1000)) && f.steps.all smallSt
theorem stp_of_small {s : Stp} (h : smallSt s = true) : StpOk s := by
  simp only [smallSt, Bool.and_eq_true, decide_eq_true_eq, List.all_eq_true] at h
  obtain ⟨⟨⟨⟨⟨⟨⟨⟨⟨h1, h2⟩, h3⟩, h4⟩, h5⟩, h6⟩, h7⟩, h8⟩, h9⟩, h10⟩ := h
  exact ⟨⟨n64_small h1.1 h1.2, n64_small h2.1 h2.2, n64_small h3.1 h3.2, n64_small h4.1 h4.2, n64_small h5.1 h5.2, n64_small h6.1 h6.2, n64_small h7.1 h7.2⟩, ⟨by unfold maxLen; omega, by unfold maxLen; omega⟩, fun x hx => n64_small (h10 x hx).1 (h10 x hx).2⟩
theorem fm_of_small {f : Fm} (h : smallFm f = true) : FmOk f := by
  simp only [smallFm, Bool.and_eq_true, decide_eq_true_eq, List.all_eq_true] at h
  obtain ⟨⟨⟨h1, h2⟩, h3⟩, h4⟩ := h
  exact ⟨by unfold maxLen; omega, n64_small h2.1 h2.2, fun x hx => n64_small (h3 x hx).1 (h3 x hx).2, fun s hs => stp_of_small (h4 s hs)⟩
theorem mf_small : (lowP mfL).all smallFm = true := by kernel_rfl
theorem mf_fms : ∀ f ∈ lowP mfL, FmOk f := fun f hf => fm_of_small (List.all_eq_true.1 mf_small f hf)
theorem mf_run_ex : ∃ C : Int, runC (lowP mfL) 200 [] (1000 : Int).toNat = some (3, C, [6]) := ⟨mfC, by unfold runC; rw [if_pos mf_code]; exact mf_run⟩
set_option maxRecDepth 100000 in
set_option maxHeartbeats 1000000 in
theorem lowered_yes (W : World) (hL : TreeP.Laid W) (hFo : FormsAt W) (hOp : OpsAt W) :
    Calls Tryz.prog 7 #[] W fun e w => e = .returned (.bool true) ∧ Mods None W w := by
  have HP := Lib.hid (mf_parse W hL)
  obtain ⟨C, hC⟩ := mf_run_ex
  have HCC := Lib.hid hC
  clear hC
  have HFO := Lib.hid (And.intro hFo hOp)
  clear hL hFo hOp
  go_enter Tryz.func7, Tryz.ntmps7
  go_wp2_with fail
  refine HP.out.mono ?_
  rintro e w1 ⟨a, c, rfl, hfs, hm1⟩
  have HLW := Lib.hid (mf_lower w1 _ hfs)
  have HM1 := Lib.hid hm1
  clear hfs hm1 HP
  go_wp2_with fail
  refine HLW.out.mono ?_
  rintro e w2 ⟨pb, lv, rfl, hpb, hlv, hm2⟩
  have HM2 := Lib.hid (HM1.out.trans hm2)
  have HAT := Lib.hid (fun (w : World) (hm : Mods None w2 w) => (⟨hm.cellOf hpb (fun f => f), hlv.mods hm (fun _ _ f => f), (HFO.out.1.mods (HM1.out.trans hm2)).mods hm, (HFO.out.2.mods (HM1.out.trans hm2)).mods hm⟩ : w.cell? ⟨pb, 0, none⟩ = some lv ∧ FmsAt w None lv (lowP mfL) ∧ FormsAt w ∧ OpsAt w))
  have hrc := fun (w : World) (hm : Mods None w2 w) => rightc_any (lowP mfL) pb _ w (HAT.out w hm).1 (HAT.out w hm).2.1 (HAT.out w hm).2.2.1 (HAT.out w hm).2.2.2 (fun f hf s hs => ((mf_fms f hf).steps s hs).nums.2.2.2.2.2.2)
  rw [mf_code] at hrc
  have HRC := Lib.hid hrc
  have HRN := Lib.hid (fun (w : World) (hm : Mods None w2 w) => mrun_any mf_fms 200 [] 1000 (3, C, [6]) HCC.out pb lv (.slice none 0 0) w (HAT.out w hm).1 (HAT.out w hm).2.1 (HAT.out w hm).2.2.1 (HAT.out w hm).2.2.2 ⟨none, 0, 0, rfl, rfl, Nat.le_refl _, by omega, fun i x hx => by simp at hx⟩ (fun n c e => by cases e; rfl) (by simp) (by omega) (by omega))
  clear hpb hlv hm2 hrc HLW HM1
  go_wp2_with fail
  go_at_call 10
  refine (HRC.out w2 (Mods.refl _ _)).mono ?_
  rintro e w3 ⟨rfl, hm3⟩
  have HM3 := Lib.hid hm3
  clear hm3
  go_wp2_with fail
  go_at_call 9
  refine (HRN.out w3 HM3.out).mono ?_
  rintro e w4 ⟨u, rfl, hu, hm4⟩
  have HU := Lib.hid hu
  obtain ⟨xa, xn, xc, rfl, hxn, hxc1, hxc2, hxi, -⟩ := hu.form
  simp only at hxi hxn ⊢
  obtain rfl : xn = 1 := hxn
  have HM4 := Lib.hid ((HM2.out.trans HM3.out).trans hm4)
  have HXI := Lib.hid hxi
  clear hu hm4 hxi
  go_wp2_with fail
  have hm5 : Mods None w4 ((w4.alloc (.cells #[.int .i64 3, .int .i64 C, .slice xa 1 xc] 31)).alloc (.cells #[.int .i64 6] 2)) := ((Mods.refl _ _).alloc _).alloc _
  have hb5 : Blk ((w4.alloc (.cells #[.int .i64 3, .int .i64 C, .slice xa 1 xc] 31)).alloc (.cells #[.int .i64 6] 2)) (w4.heap.size + 1) [.int .i64 6] 2 := by
    have := Blk.new (w4.alloc (.cells #[.int .i64 3, .int .i64 C, .slice xa 1 xc] 31)) #[.int .i64 6] 2
    simpa using this
  have hin : InAt ((w4.alloc (.cells #[.int .i64 3, .int .i64 C, .slice xa 1 xc] 31)).alloc (.cells #[.int .i64 6] 2)) None (.slice (some ⟨w4.heap.size + 1, 0, none⟩) 1 1) [6] := by
    refine ⟨_, 1, 1, rfl, rfl, Nat.le_refl _, (by unfold maxLen; omega), fun i x hx => ?_⟩
    cases i with
    | zero =>
      obtain rfl : 6 = x := by simpa using hx
      exact ⟨_, 0, rfl, fun f => f, hb5.cell (i := 0) rfl⟩
    | succ i => simp at hx
  refine (equal_any _ _ [6] [6] _ (HXI.out.mods hm5 (fun _ _ f => f)) hin).mono ?_
  rintro e w6 ⟨rfl, hm6⟩
  have HM6 := Lib.hid (HM4.out.trans (hm5.trans hm6))
  clear hm5 hb5 hin hm6
  rw [beq_self_eq_true]
  go_wp2_with fail
  go_ret
  exact ⟨rfl, HM6.out⟩
end Go.Proofs.YtnicpmoanjddbaaGreatDoor.MidP
namespace Go.Proofs.YtnicpmoanjddbaaGreatDoor.MidP
open Go.RowKit Go.Proofs.YtnicpmoanjddbaaGreatDoor.Wo Go.Maps Go.Proofs.YtnicpmoanjddbaaGreatDoor.TreeP
set_option linter.unusedVariables false
set_option linter.unusedSimpArgs false
theorem mf_take {W : World} {S : Nat → Prop} {a : Option Addr} {n c : Nat} {l : List Int} (h : InAt W S (.slice a n c) l) (k : Nat) (hk : k ≤ n) : InAt W S (.slice a k c) (l.take k) := by
  obtain ⟨a', n', c', e, h1, h2, h3, h4⟩ := h
  obtain ⟨rfl, rfl, rfl⟩ := Value.slice.inj e
  refine ⟨a, k, c, rfl, by rw [List.length_take]; omega, by omega, h3, fun i x hx => ?_⟩
  rw [List.getElem?_take] at hx
  split at hx
  · exact h4 i x hx
  · cases hx
theorem mf_eq {W : World} {v1 v2 : Value} {l m : List Int} (h1 : InAt W None v1 l) (h2 : InAt W None v2 m) (hlm : l = m) (n : Nat) :
    Calls Tryz.prog 11 #[v1, v2] (W.drewN n) fun e w'' => e = .returned (.bool true) ∧ ∃ m, w'' = W.drewN m := by
  subst hlm
  exact (equal_quiet v1 v2 l l (W.drewN n) (h1.mods ((Mods.refl None W).drewN n) (fun _ _ f => f)) (h2.mods ((Mods.refl None W).drewN n) (fun _ _ f => f))).mono fun _ _ ⟨he, d, hw⟩ => ⟨by rw [he]; simp, n + d, by rw [hw, World.drewN_drewN]⟩
theorem mf_eq2 {W W' : World} {v1 v2 : Value} {l m : List Int} (h1 : InAt W None v1 l) (h2 : InAt W None v2 m) (hlm : l = m) (hm : Mods None W W') :
    Calls Tryz.prog 11 #[v1, v2] W' fun e w'' => e = .returned (.bool true) ∧ Mods None W' w'' := by
  subst hlm
  refine (equal_any v1 v2 l l W' (h1.mods hm (fun _ _ f => f)) (h2.mods hm (fun _ _ f => f))).mono ?_
  rintro e w ⟨rfl, h⟩
  exact ⟨by simp, h⟩
theorem mf_soon (L : List Fm) (given : List Int) (fuel : Nat) : ∃ f x, ∀ g, f ≤ g → runC L g given fuel = some x := by
  unfold runC
  by_cases h : codeB L = true
  · simp only [if_pos h]; exact runM_soon L given fuel
  · simp only [if_neg h]; exact ⟨0, _, fun _ _ => rfl⟩
theorem mf_more {L : List Fm} {f : Nat} {given : List Int} {a b : Nat} {x y : Int × Int × List Int} (h : a ≤ b) (hx : runC L f given a = some x) (hy : runC L f given b = some y) : (codeB L = false → x = (9, 0, []) ∧ y = (9, 0, [])) ∧ x.2.2 <+: y.2.2 ∧ (x.1 ≠ 6 → x = y) := by
  unfold runC at hx hy
  by_cases hc : codeB L = true
  · rw [if_pos hc] at hx hy
    exact ⟨fun e => absurd (hc.symm.trans e) (by decide), runM_more h hx hy⟩
  · rw [if_neg hc] at hx hy
    obtain rfl := Option.some.inj hx
    obtain rfl := Option.some.inj hy
    exact ⟨fun _ => ⟨rfl, rfl⟩, List.prefix_refl _, fun _ => rfl⟩
set_option maxRecDepth 100000 in
set_option maxHeartbeats 1000000 in
theorem mf_walk (lv gv : Value) (L : List Fm) (given : List Int) (a b : Int) (W : World) (hL : FmsAt W None lv L) (hok : ∀ f ∈ L, FmOk f) (hg : InAt W None gv given) (hg0 : ∀ n c, gv = .slice none n c → c = 0) (hLd : TreeP.Laid W) (hFo : FormsAt W) (hOp : OpsAt W) :
    Calls Tryz.prog 3 #[lv, gv, .int .i64 a, .int .i64 b] W fun e w => e = .returned (.bool true) ∧ Mods None W w := by
  have hsm := small_any L lv W hL
  obtain ⟨sb, hsb⟩ : ∃ sb, sb = smallB L := ⟨_, rfl⟩
  rw [← hsb] at hsm
  have HSM := Lib.hid hsm
  have HG0 := Lib.hid hg0
  obtain ⟨la, lc, rfl, hlc1, hlc2, -⟩ := hL.form
  obtain ⟨ga, gn, gc, rfl, hgn, hgc1, hgc2, hgs⟩ := hg
  have HGI : Hid (InAt W None (.slice ga gn gc) given) := Lib.hid ⟨ga, gn, gc, rfl, hgn, hgc1, hgc2, hgs⟩
  have HH := Lib.hid (And.intro hL hok)
  have HFO := Lib.hid (And.intro hLd (And.intro hFo hOp))
  have HGN := Lib.hid hgn
  obtain ⟨ln, hln⟩ : ∃ ln, ln = L.length := ⟨_, rfl⟩
  have HLN := Lib.hid hln
  rw [← hln] at HSM hlc1 ⊢
  unfold maxLen at hgc2
  clear hL hok hg0 hLd hFo hOp hsm hsb hgs hgn hln
  go_enter Tryz.func3, Tryz.ntmps3
  by_cases h20 : gn ≤ 20
  rotate_left
  · have hg1 : (gn : Int) > 20 := by omega
    clear h20
    go_wp2_with fail
    go_ret
    exact ⟨rfl, by first | exact Mods.refl _ _ | exact (Mods.refl _ _).drew⟩
  have hg1 : ¬ (gn : Int) > 20 := by omega
  go_wp2_with fail
  go_at_call 6
  refine HSM.out.mono ?_
  rintro e w1 ⟨rfl, hm1⟩
  have HM1 := Lib.hid hm1
  clear hm1 HSM
  cases sb with
  | false =>
    go_wp2_with fail
    go_ret
    exact ⟨rfl, by first | exact HM1.out | exact HM1.out.drew⟩
  | true =>
    have HLW := Lib.hid (lowered_yes w1 (HFO.out.1.next HM1.out) (HFO.out.2.1.mods HM1.out) (HFO.out.2.2.mods HM1.out))
    go_wp2_with fail
    go_at_call 7
    refine HLW.out.mono ?_
    rintro e w2 ⟨rfl, hm2⟩
    have HM2 := Lib.hid (HM1.out.trans hm2)
    clear hm2 HLW HM1
    obtain ⟨W3, hW3⟩ : ∃ W3, W3 = w2.alloc (.cells #[.slice la ln lc] 28) := ⟨_, rfl⟩
    have hm3 : Mods None w2 W3 := by rw [hW3]; exact (Mods.refl _ _).alloc _
    have hb3 : Blk W3 w2.heap.size [.slice la ln lc] 28 := by rw [hW3]; exact Blk.new w2 _ _
    obtain ⟨cb, hcb⟩ : ∃ cb, cb = w2.heap.size := ⟨_, rfl⟩
    rw [← hcb] at hb3
    have HM3 := Lib.hid (HM2.out.trans hm3)
    have hLat : FmsAt W3 None (.slice la ln lc) L := by have h := HH.out.1.mods HM3.out (T := None) (fun _ _ f => f); rw [← HLN.out] at h; exact h
    have hpa := pkn_in a 300 (by decide)
    have hpb := pkn_in b 300 (by decide)
    have HPA := Lib.hid (fun w => pick_any a 300 w (by decide) (by decide))
    have HPB := Lib.hid (fun w => pick_any b 300 w (by decide) (by decide))
    generalize pkn a 300 = pa at *
    generalize pkn b 300 = pb at *
    obtain ⟨f1, x, hx⟩ := mf_soon L given pa.toNat
    obtain ⟨f2, y, hy⟩ := mf_soon L given (pa + pb).toNat
    have hx := hx (max f1 f2) (by omega)
    have hy := hy (max f1 f2) (by omega)
    have hxy := mf_more (by omega) hx hy
    have HAT := Lib.hid (fun (w : World) (hm : Mods None W3 w) => (⟨(hb3.mods hm (fun f => f)).cell (i := 0) rfl, hLat.mods hm (fun _ _ f => f), (HFO.out.2.1.mods HM3.out).mods hm, (HFO.out.2.2.mods HM3.out).mods hm, (HGI.out.mods HM3.out (fun _ _ f => f)).mods hm (fun _ _ f => f)⟩ : w.cell? ⟨cb, 0, none⟩ = some (.slice la ln lc) ∧ FmsAt w None (.slice la ln lc) L ∧ FormsAt w ∧ OpsAt w ∧ InAt w None (.slice ga gn gc) given))
    obtain ⟨hpa0, hpa1⟩ := hpa
    obtain ⟨hpb0, hpb1⟩ := hpb
    have HRX := Lib.hid (fun (w : World) (hm : Mods None W3 w) => mrun_any HH.out.2 _ given pa x hx cb _ _ w (HAT.out w hm).1 (HAT.out w hm).2.1 (HAT.out w hm).2.2.1 (HAT.out w hm).2.2.2.1 (HAT.out w hm).2.2.2.2 HG0.out (by have := HGN.out; omega) (by omega) (by omega))
    have HRY := Lib.hid (fun (w : World) (hm : Mods None W3 w) => mrun_any HH.out.2 _ given (pa + pb) y hy cb _ _ w (HAT.out w hm).1 (HAT.out w hm).2.1 (HAT.out w hm).2.2.1 (HAT.out w hm).2.2.2.1 (HAT.out w hm).2.2.2.2 HG0.out (by have := HGN.out; omega) (by omega) (by omega))
    have hrc := fun (w : World) (hm : Mods None W3 w) => rightc_any L cb _ w (HAT.out w hm).1 (HAT.out w hm).2.1 (HAT.out w hm).2.2.1 (HAT.out w hm).2.2.2.1 (fun f hf s hs => ((HH.out.2 f hf).steps s hs).nums.2.2.2.2.2.2)
    obtain ⟨R, hR⟩ : ∃ R, R = codeB L := ⟨_, rfl⟩
    rw [← hR] at hrc hxy
    have HRC := Lib.hid hrc
    have HXY := Lib.hid hxy
    clear hm3 hb3 hLat hx hy hrc hR hxy HAT
    go_upto_region 6 with (fail)
    rw [← hW3, ← hcb]
    clear hW3 hcb
    go_wp2_with fail
    go_at_call 8
    refine (HPA.out _).mono ?_
    rintro e w3 ⟨rfl, rfl⟩
    clear HPA
    go_wp2_with fail
    go_at_call 8
    refine (HPB.out _).mono ?_
    rintro e w3 ⟨rfl, rfl⟩
    clear HPB
    go_wp2_with fail
    go_at_call 9
    refine (HRX.out _ (Mods.refl _ _)).mono ?_
    rintro e w4 ⟨u, rfl, hu, hm4⟩
    have HM4 := Lib.hid hm4
    have HU := Lib.hid hu
    clear hu hm4 HRX
    obtain ⟨xa, xn, xc, rfl, hxn0, hxc1, hxc2, -, -⟩ := HU.out.form
    have HXN := Lib.hid hxn0
    clear hxn0
    go_wp2_with fail
    go_at_call 9
    refine (HRY.out _ HM4.out).mono ?_
    rintro e w5 ⟨u2, rfl, hu2, hm5⟩
    obtain ⟨ya, yn, yc, rfl, hyn, hyc1, hyc2, -, hy0⟩ := hu2.form
    obtain ⟨W6, hW6⟩ : ∃ W6, W6 = ((w5.alloc (.cells #[.int .i64 x.1, .int .i64 x.2.1, .slice xa xn xc] 31)).alloc (.cells #[.int .i64 y.1, .int .i64 y.2.1, .slice ya yn yc] 31)) := ⟨_, rfl⟩
    have hm6 : Mods None w5 W6 := by rw [hW6]; exact ((Mods.refl _ _).alloc _).alloc _
    have HBX : Blk W6 w5.heap.size [.int .i64 x.1, .int .i64 x.2.1, .slice xa xn xc] 31 := by rw [hW6]; exact (Blk.new w5 _ _).alloc _
    have HBY : Blk W6 (w5.heap.size + 1) [.int .i64 y.1, .int .i64 y.2.1, .slice ya yn yc] 31 := by
      rw [hW6]
      have := Blk.new (w5.alloc (.cells #[.int .i64 x.1, .int .i64 x.2.1, .slice xa xn xc] 31)) #[.int .i64 y.1, .int .i64 y.2.1, .slice ya yn yc] 31
      simpa using this
    have HM6 := Lib.hid ((HM4.out.trans hm5).trans hm6)
    have HUX := Lib.hid (And.intro ((HU.out.mods hm5).mods hm6) (hu2.mods hm6))
    have HBB := Lib.hid (And.intro HBX HBY)
    obtain ⟨x1, x2, o⟩ := x
    obtain ⟨y1, y2, yo⟩ := y
    have hxn := HXN.out
    simp only at hxn hyn HXY HUX HBX HBY hW6 ⊢
    have HNX := Lib.hid (And.intro hxn hyn)
    obtain ⟨q, hq⟩ : ∃ q, q = w5.heap.size := ⟨_, rfl⟩
    clear hu2 hm5 hm6 HU hxn hyn HXN HRY HBX HBY
    go_wp2_with fail
    rw [← hW6]
    clear hW6
    refine (HRC.out W6 HM6.out).mono ?_
    rintro e w7 ⟨rfl, hm7⟩
    have hbx := HBB.out.1.mods hm7 (fun f => f)
    have hby := HBB.out.2.mods hm7 (fun f => f)
    have HUX7 := Lib.hid (And.intro (HUX.out.1.mods hm7) (HUX.out.2.mods hm7))
    have HM7 := Lib.hid (HM3.out.trans (HM6.out.trans hm7))
    have cx0 := hbx.cell (i := 0) rfl
    have cx1 := hbx.cell (i := 1) rfl
    have cx2 := hbx.cell (i := 2) rfl
    have cy0 := hby.cell (i := 0) rfl
    have cy1 := hby.cell (i := 1) rfl
    have cy2 := hby.cell (i := 2) rfl
    have lx := hbx.lt
    have ly := hby.lt
    rw [← hq] at cx0 cx1 cx2 cy0 cy1 cy2 lx ly ⊢
    clear hbx hby hm7 HUX HM6 HRC HBB HM4 hq
    cases R with
    | false =>
      obtain ⟨hx9, hy9⟩ := HXY.out.1 rfl
      simp only [Prod.mk.injEq] at hx9 hy9
      obtain ⟨rfl, -, -⟩ := hx9
      obtain ⟨rfl, -, -⟩ := hy9
      go_wp2_with fail
      go_ret
      exact ⟨rfl, by first | exact HM7.out | exact HM7.out.drew⟩
    | true =>
      have hpre : o <+: yo := HXY.out.2.1
      have hnm : o.length ≤ yo.length := hpre.length_le
      rw [← HNX.out.1, ← HNX.out.2] at hnm
      obtain ⟨oa, on, oc, e1, e2, -, -, hix, -⟩ := HUX7.out.1.form
      obtain ⟨-, -, rfl, rfl, rfl⟩ : x1 = x1 ∧ x2 = x2 ∧ xa = oa ∧ xn = on ∧ xc = oc := by simpa using e1
      obtain ⟨oa, on, oc, e3, e4, -, -, hiy, -⟩ := HUX7.out.2.form
      obtain ⟨-, -, rfl, rfl, rfl⟩ : y1 = y1 ∧ y2 = y2 ∧ ya = oa ∧ yn = on ∧ yc = oc := by simpa using e3
      have ht := mf_take hiy xn hnm
      simp only at hix ht
      rw [HNX.out.1, (List.prefix_iff_eq_take.1 hpre).symm, ← HNX.out.1] at ht
      have HIX := Lib.hid hix
      have HIT := Lib.hid ht
      clear hpre hix hiy ht e1 e2 e3 e4
      have hdx : decide ((xn : Int) ≤ (yn : Int)) = true := decide_eq_true (by omega)
      have hxy' : (xn : Int) ≤ (yn : Int) := by omega
      by_cases h6 : x1 = 6
      · subst h6
        have g6 : ((6 : Int) == 6) = true := rfl
        go_wp2_with fail
        cases ya with
        | none =>
          obtain rfl := hy0 rfl
          obtain rfl : yn = 0 := by omega
          obtain rfl : xn = 0 := by omega
          go_quiet ((go_at_call 11; with_reducible exact mf_eq HIX.out HIT.out rfl _))
          go_wp2_with fail
          go_ret
          exact ⟨rfl, by first | exact HM7.out.drewN _ | exact HM7.out⟩
        | some p2 =>
          have hcut : xn ≤ yc := by omega
          have hadd : p2.add 0 = p2 := by simp [Addr.add]
          go_quiet ((go_at_call 11; with_reducible exact mf_eq HIX.out HIT.out rfl _))
          go_wp2_with fail
          go_ret
          exact ⟨rfl, by first | exact HM7.out.drewN _ | exact HM7.out⟩
      · have g6 : (x1 == 6) = false := by rw [beq_eq_false_iff_ne]; exact h6
        have hxe := HXY.out.2.2 h6
        simp only [Prod.mk.injEq] at hxe
        obtain ⟨rfl, rfl, rfl⟩ := hxe
        obtain rfl : xn = yn := HNX.out.1.trans HNX.out.2.symm
        clear h6
        go_wp2_with fail
        cases ya with
        | none =>
          obtain rfl := hy0 rfl
          obtain rfl : xn = 0 := by omega
          go_region_held3 (fun w' => Hid (Mods None w7 w') ∧ w'.cell? ⟨q, 0, none⟩ = some (.int .i64 x1) ∧ w'.cell? ⟨q, 1, none⟩ = some (.int .i64 x2) ∧ w'.cell? ⟨q, 2, none⟩ = some (.slice xa 0 xc) ∧ w'.cell? ⟨q + 1, 0, none⟩ = some (.int .i64 x1) ∧ w'.cell? ⟨q + 1, 1, none⟩ = some (.int .i64 x2) ∧ w'.cell? ⟨q + 1, 2, none⟩ = some (.slice none 0 0))
            (first
              | exact ⟨Lib.hid (Mods.refl _ _).drew, cx0, cx1, cx2, cy0, cy1, cy2⟩
              | assumption
              | (go_split_ands; exact ⟨Lib.hid (Mods.trans (Hid.out ‹_›) hm), hm.cellOf ‹_› (fun f => f), hm.cellOf ‹_› (fun f => f), hm.cellOf ‹_› (fun f => f), hm.cellOf ‹_› (fun f => f), hm.cellOf ‹_› (fun f => f), hm.cellOf ‹_› (fun f => f)⟩)
              | (go_split_ands; exact ⟨Lib.hid (Mods.trans (Hid.out ‹_›) hm2), hm2.cellOf ‹_› (fun f => f), hm2.cellOf ‹_› (fun f => f), hm2.cellOf ‹_› (fun f => f), hm2.cellOf ‹_› (fun f => f), hm2.cellOf ‹_› (fun f => f), hm2.cellOf ‹_› (fun f => f)⟩))
            ((first
              | (go_at_call 11; go_split_ands; refine (mf_eq2 HIX.out HIT.out rfl (Hid.out ‹Hid (Mods None w7 _)›)).mono ?_; rintro e w8 ⟨rfl, hm⟩)
              | (go_at_call 12; go_split_ands; refine (same_end (x1, x2, o) _ _ _ (HUX7.out.1.mods (Hid.out ‹Hid (Mods None w7 _)›)) (HUX7.out.2.mods (Hid.out ‹Hid (Mods None w7 _)›))).mono ?_; rintro e w9 ⟨rfl, hm2⟩)))
          all_goals
            go_split_ands
            have HM9 := Lib.hid (HM7.out.trans (Hid.out (‹Hid (Mods None w7 w9)› : Hid (Mods None w7 w9))))
            go_wp2_with fail
            go_ret
            exact ⟨rfl, by first | exact HM9.out | exact HM9.out.drew⟩
        | some p2 =>
          have hcut : xn ≤ yc := by omega
          have hadd : p2.add 0 = p2 := by simp [Addr.add]
          go_region_held3 (fun w' => Hid (Mods None w7 w') ∧ w'.cell? ⟨q, 0, none⟩ = some (.int .i64 x1) ∧ w'.cell? ⟨q, 1, none⟩ = some (.int .i64 x2) ∧ w'.cell? ⟨q, 2, none⟩ = some (.slice xa xn xc) ∧ w'.cell? ⟨q + 1, 0, none⟩ = some (.int .i64 x1) ∧ w'.cell? ⟨q + 1, 1, none⟩ = some (.int .i64 x2) ∧ w'.cell? ⟨q + 1, 2, none⟩ = some (.slice (some p2) xn yc))
            (first
              | exact ⟨Lib.hid (Mods.refl _ _).drew, cx0, cx1, cx2, cy0, cy1, cy2⟩
              | assumption
              | (go_split_ands; exact ⟨Lib.hid (Mods.trans (Hid.out ‹_›) hm), hm.cellOf ‹_› (fun f => f), hm.cellOf ‹_› (fun f => f), hm.cellOf ‹_› (fun f => f), hm.cellOf ‹_› (fun f => f), hm.cellOf ‹_› (fun f => f), hm.cellOf ‹_› (fun f => f)⟩)
              | (go_split_ands; exact ⟨Lib.hid (Mods.trans (Hid.out ‹_›) hm2), hm2.cellOf ‹_› (fun f => f), hm2.cellOf ‹_› (fun f => f), hm2.cellOf ‹_› (fun f => f), hm2.cellOf ‹_› (fun f => f), hm2.cellOf ‹_› (fun f => f), hm2.cellOf ‹_› (fun f => f)⟩))
            ((first
              | (go_at_call 11; go_split_ands; refine (mf_eq2 HIX.out HIT.out rfl (Hid.out ‹Hid (Mods None w7 _)›)).mono ?_; rintro e w8 ⟨rfl, hm⟩)
              | (go_at_call 12; go_split_ands; refine (same_end (x1, x2, o) _ _ _ (HUX7.out.1.mods (Hid.out ‹Hid (Mods None w7 _)›)) (HUX7.out.2.mods (Hid.out ‹Hid (Mods None w7 _)›))).mono ?_; rintro e w9 ⟨rfl, hm2⟩)))
          all_goals
            go_split_ands
            have HM9 := Lib.hid (HM7.out.trans (Hid.out (‹Hid (Mods None w7 w9)› : Hid (Mods None w7 w9))))
            go_wp2_with fail
            go_ret
            exact ⟨rfl, by first | exact HM9.out | exact HM9.out.drew⟩
end Go.Proofs.YtnicpmoanjddbaaGreatDoor.MidP
