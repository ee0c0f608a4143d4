/- What the runner makes of two numbers. Conditions: what it has lies. -/
import Derived.Test.YtdgedlhefjmcpaaGreatDoorRunKinds
namespace Go.Proofs.YtdgedlhefjmcpaaGreatDoor.TreeP
open Go.RowKit Go.Proofs.YtdgedlhefjmcpaaGreatDoor.Wo
set_option linter.unusedVariables false
set_option linter.unusedSimpArgs false
set_option maxRecDepth 100000 in
set_option maxHeartbeats 1000000 in
theorem ev_bin {L : List Fn} {f : Nat} (ih : EvC L f) (a : Int) (op : List UInt8) (x y : Ex) (b mb : Nat) (P M : Nat → Prop) (A : List (Nat × Nat)) (s : RS) (F : Fr) (fm n : Nat) (W : World) (v : Value) (r : Except Sig V × RS) (h : RAt W b mb L P M A s) (hF : FrAt W P M A fm n F) (hg : GoodE L (.bin a op x y)) (he : ExAt W (fun k => ¬ P k) (.bin a op x y) v) (hr : evE L (f + 1) s F (.bin a op x y) = some r) :
    Calls Tryz.prog 139 #[.pointer (some ⟨b, 0, none⟩), .map (some fm), v] W (Ran W b mb L P None M A retV r) := by
  have hmf : ∀ (fn : Go.Fn) (first cap : Array Value) (w : World), (Instr.makeFunc fn first cap).run Tryz.prog w = .ok (.func fn first cap) w := fun _ _ _ _ => rfl
  obtain ⟨W3, hW3⟩ : ∃ W3, W3 = ((W.alloc (.cells #[.pointer (some ⟨b, 0, none⟩)] 102)).alloc (.cells #[.map (some fm)] 156)).alloc (.cells #[.int .i64 0, .slice none 0 0] 158) := ⟨_, rfl⟩
  have HM : Hid (Mods None W W3) := Lib.hid (by rw [hW3]; exact (((Mods.refl _ _).alloc _).alloc _).alloc _)
  have HB : Hid (Bx W W3 P M b fm W.heap.size) := Lib.hid (by rw [hW3]; exact Bx.new fm h)
  have HR := Lib.hid (h.quiet HM.out)
  have HF := Lib.hid (hF.ext (Ext.quiet HM.out) (List.prefix_refl A))
  have HE : Hid (Ext None M M W W3) := Lib.hid (Ext.quiet HM.out)
  have HA := Lib.hid (List.prefix_refl A)
  simp only [ExAt] at he
  obtain ⟨xv, yv, ⟨g, rfl, hpg, hv⟩, hxv, hyv⟩ := he
  simp only [GoodE] at hg
  have hxv := ex_on hxv h HE.out
  have hyv := ex_on hyv h HE.out
  have HN := Lib.hid (numC_of ih hg.1 P b mb fm W.heap.size F xv M A s n W W3 HB.out HR.out HF.out hxv)
  have HN2 := Lib.hid (numC_of ih hg.2 P b mb fm W.heap.size F yv)
  have hpg : P g := Classical.not_not.1 hpg
  have HY := Lib.hid (And.intro hyv hpg)
  have HV : Hid (Blk W3 g (cells8 3 a 0 [] op xv yv nilS) 195) := Lib.hid (hv.mods HM.out (fun f => f))
  have d0 : W3.cell? ⟨g, 0, none⟩ = some (.int .i64 3) := HV.out.cell rfl
  have d5 : W3.cell? ⟨g, 5, none⟩ = some xv := HV.out.cell rfl
  obtain ⟨xg, rfl⟩ := hxv.ptr
  obtain ⟨yg, rfl⟩ := hyv.ptr
  have hl := hv.lt
  clear h hv hpg hF hg hxv hyv ih
  by_cases hop : op = [38, 38] ∨ op = [124, 124]
  · have HX : Hid (bindR (evN L f s F x) (fun k s => if (k != 0) = (op == [124, 124]) then okR (numV (oneB (k != 0))) s else bindR (evE L f s F y) fun b s => okR (numV (oneB (b.n != 0))) s) = some r) := Lib.hid (by rw [bindN, ← hr]; simp only [evE, if_pos hop, bindN])
    have hop2 : Hid (op = [38, 38] ∨ op = [124, 124]) := Lib.hid hop
    clear hr hop
    go_enter Tryz.func139, Tryz.ntmps139
    go_upto_region 2 with (fail)
    rw [← hW3]
    clear hW3
    go_wp2_with fail
    go_at_call 157
    refine rbind_of HE HA HX HN.out ?_ ?_
    · rintro g s' rfl older w H
      obtain ⟨M', A', k1, k2, k3⟩ := H.out
      go_wp2
      exact ⟨rfl, ⟨older, rfl⟩, M', A', k1, k2, k3⟩
    · rintro k s' - HX2 e w M' A' HEQ HR2 HE2 HE3 HA2 HA3
      obtain rfl := HEQ
      have HB2 := Lib.hid (HB.out.step HE2.out)
      have HF2 := Lib.hid (HF.out.ext HE2.out HA2.out)
      have HV2 := Lib.hid (blk_on HV.out HY.out.2 HR.out HE2.out)
      have e4 : w.cell? ⟨g, 4, none⟩ = some (.string ⟨op.toArray⟩) := HV2.out.cell rfl
      have e6 : w.cell? ⟨g, 6, none⟩ = some (.pointer (some ⟨yg, 0, none⟩)) := HV2.out.cell rfl
      have hyv2 := ex_on HY.out.1 HR.out HE2.out
      have HX3 := Lib.hid HX2.out
      obtain ⟨c, hc⟩ : ∃ c, c = (k != 0) := ⟨_, rfl⟩
      have HX4 : Hid ((if c = (op == [124, 124]) then okR (numV (oneB c)) s' else bindR (evN L f s' F y) fun b s => okR (numV (oneB (b != 0))) s) = some r) := Lib.hid (by rw [bindN, hc]; exact HX2.out)
      have hc1 : (k != 0) = c := hc.symm
      have HN3 := Lib.hid (HN2.out M' A' s' n W w HB2.out HR2.out HF2.out hyv2)
      clear hc HX HX2 HX3 HN HN2 d0 d5 hyv2 HF HV
      rcases hop2.out with rfl | rfl
      all_goals
        clear hop2
        cases c
        all_goals
          first
          | (have HX5 := Lib.hid ((Option.some.inj HX4.out).symm : r = (.ok (numV (oneB _)), s'))
             clear HX4 HN3
             have r0 := (HB2.out).c6.cell (i := 0) rfl
             have r1 := (HB2.out).c6.cell (i := 1) rfl
             have z0 := (HB2.out).c6.free 0
             have z1 := (HB2.out).c6.free 1
             go_wp2_with fail
             go_at_call 158
             refine (one_any _ _).mono ?_
             rintro e w1 ⟨rfl, rfl⟩
             go_wp2_with fail
             rw [HX5.out]
             exact HB2.out.ret HR2.out HE3.out HA3.out (Or.inl ⟨rfl, rfl⟩) rfl rfl rfl rfl)
          | (have HX5 : Hid (bindR (evN L f s' F y) (fun b s => okR (numV (oneB (b != 0))) s) = some r) := Lib.hid HX4.out
             clear HX4
             go_wp2_with fail
             go_at_call 157
             refine rbind_of HE3 HA3 HX5 HN3.out ?_ ?_
             · rintro g s' rfl older w H
               obtain ⟨M', A', k1, k2, k3⟩ := H.out
               go_wp2
               exact ⟨rfl, ⟨older, rfl⟩, M', A', k1, k2, k3⟩
             · rintro k2 s'' - HX6 e w5 M5 A5 HEQ HR5 HE5 HE6 HA5 HA6
               obtain rfl := HEQ
               have HB5 := Lib.hid (HB2.out.step HE5.out)
               have r0 := (HB5.out).c6.cell (i := 0) rfl
               have r1 := (HB5.out).c6.cell (i := 1) rfl
               have z0 := (HB5.out).c6.free 0
               have z1 := (HB5.out).c6.free 1
               have HX7 := Lib.hid (Option.some.inj HX6.out).symm
               obtain ⟨c2, hc2⟩ : ∃ c, c = (k2 != 0) := ⟨_, rfl⟩
               rw [← hc2] at HX7
               have hc3 : (k2 != 0) = c2 := hc2.symm
               clear hc2 HX5 HX6 HN3
               cases c2
               all_goals
                 go_wp2_with fail
                 go_at_call 158
                 refine (one_any _ _).mono ?_
                 rintro e w1 ⟨rfl, rfl⟩
                 go_wp2_with fail
                 rw [HX7.out]
                 exact HB5.out.ret HR5.out HE6.out HA6.out (Or.inl ⟨rfl, rfl⟩) rfl rfl rfl rfl)
  · have HX : Hid (bindR (evN L f s F x) (fun k s => bindR (evN L f s F y) fun b s => match twoP op k b with
        | some n => okR (numV n) s
        | none => stopR 2 s) = some r) := Lib.hid (by
      simp only [bindN]
      rw [← hr]
      simp only [evE, if_neg hop]
      congr 1)
    have hop1 : (op == [38, 38]) = false := by simpa using fun h => hop (Or.inl h)
    have hop2 : (op == [124, 124]) = false := by simpa using fun h => hop (Or.inr h)
    clear hr hop
    go_enter Tryz.func139, Tryz.ntmps139
    go_upto_region 2 with (fail)
    rw [← hW3]
    clear hW3
    go_wp2_with fail
    go_at_call 157
    refine rbind_of HE HA HX HN.out ?_ ?_
    · rintro g s' rfl older w H
      obtain ⟨M', A', k1, k2, k3⟩ := H.out
      go_wp2
      exact ⟨rfl, ⟨older, rfl⟩, M', A', k1, k2, k3⟩
    · rintro k s' - HX2 e w M' A' HEQ HR2 HE2 HE3 HA2 HA3
      obtain rfl := HEQ
      have HB2 := Lib.hid (HB.out.step HE2.out)
      have HF2 := Lib.hid (HF.out.ext HE2.out HA2.out)
      have HV2 := Lib.hid (blk_on HV.out HY.out.2 HR.out HE2.out)
      have e4 : w.cell? ⟨g, 4, none⟩ = some (.string ⟨op.toArray⟩) := HV2.out.cell rfl
      have e6 : w.cell? ⟨g, 6, none⟩ = some (.pointer (some ⟨yg, 0, none⟩)) := HV2.out.cell rfl
      have hyv2 := ex_on HY.out.1 HR.out HE2.out
      clear HX HN d0 d5 HF HV
      have HMD : Mods None w w.drew := (Mods.refl _ _).drew
      have HE4 : Hid (Ext None M M' W w.drew) := Lib.hid (HE3.out.trans (Ext.quiet HMD))
      have HB4 := Lib.hid (HB2.out.step (Ext.quiet HMD))
      have HR4 := Lib.hid (HR2.out.quiet HMD)
      have HV4 := Lib.hid (HV2.out.mods HMD (fun f => f))
      have HN3 := Lib.hid (HN2.out M' A' s' n W w.drew HB4.out HR4.out (HF2.out.ext (Ext.quiet HMD) (List.prefix_refl _)) (ex_on hyv2 HR2.out (Ext.quiet HMD)))
      have HPG := Lib.hid HY.out.2
      clear HN2 hyv2 HMD HF2 HY HB2 HR2 HV2 HE2 HE3
      obtain ⟨z, hz⟩ : ∃ z, z = evN L f s' F y := ⟨_, rfl⟩
      have HX4 : Hid (bindR z (fun b s => match twoP op k b with
        | some n => okR (numV n) s
        | none => stopR 2 s) = some r) := Lib.hid (by rw [hz]; exact HX2.out)
      clear HX2
      rcases z with _ | ⟨g' | k2, s''⟩
      · cases HX4.out
      · obtain rfl := (Option.some.inj HX4.out).symm
        have HN4 := Lib.hid (HN3.out _ hz.symm)
        clear hz HN3 HX4
        unfold Ran at HN4 ⊢
        go_wp2_with fail
        go_region_with (first | (go_at_call 157; refine HN4.out.mono ?_; rintro e w5 ⟨⟨older, rfl⟩, M5, A5, k1, k2, k3⟩; refine no_way Tryz.prog w5 ⟨rfl, ⟨older, rfl⟩, M5, A5, k1, HE4.out.trans k2, HA3.out.trans k3⟩ ?_))
        all_goals trivial
      · have HN4 := Lib.hid (HN3.out _ hz.symm)
        clear hz HN3
        cases ht : twoP op k k2 with
        | none =>
          obtain rfl : r = (.error (.stop 2), s'') := by have := HX4.out; simp only [bindR, ht] at this; exact (Option.some.inj this).symm
          have HT := Lib.hid (two_any op k k2)
          rw [ht] at HT
          clear ht HX4
          unfold Ran at HN4 ⊢
          go_wp2_with fail
          go_region_with (first | (go_at_call 157; refine HN4.out.mono ?_; rintro e w5 ⟨M5, A5, rfl, k1, k2, k3⟩; have e5 : w5.cell? ⟨g, 4, none⟩ = some (.string ⟨op.toArray⟩) := (blk_on HV4.out HPG.out HR4.out k2).cell rfl; have HK := Lib.hid (And.intro k1 (And.intro k2 k3)); clear k1 k2 k3) | (go_at_call 159; refine (HT.out _).mono ?_; rintro e w6 ⟨⟨older, rfl⟩, rfl⟩; refine no_way Tryz.prog w5 ⟨rfl, ⟨older, rfl⟩, M5, A5, HK.out.1, HE4.out.trans HK.out.2.1, HA3.out.trans HK.out.2.2⟩ ?_))
          all_goals trivial
        | some k3 =>
          obtain rfl : r = (.ok (numV k3), s'') := by have := HX4.out; simp only [bindR, ht] at this; exact (Option.some.inj this).symm
          have HT := Lib.hid (two_any op k k2)
          rw [ht] at HT
          clear ht HX4
          unfold Ran at HN4
          go_wp2_with fail
          go_region_with (first | (go_at_call 157; refine HN4.out.mono ?_; rintro e w5 ⟨M5, A5, rfl, k1, k2, k3⟩; have e5 : w5.cell? ⟨g, 4, none⟩ = some (.string ⟨op.toArray⟩) := (blk_on HV4.out HPG.out HR4.out k2).cell rfl; have HB5 := Lib.hid (HB4.out.step k2); have r0 := HB5.out.c6.cell (i := 0) rfl; have r1 := HB5.out.c6.cell (i := 1) rfl; have z0 := HB5.out.c6.free 0; have z1 := HB5.out.c6.free 1; have HK := Lib.hid (And.intro k1 (And.intro k2 k3)); clear k1 k2 k3) | (go_at_call 159; refine (HT.out _).mono ?_; rintro e w6 ⟨rfl, rfl⟩))
          all_goals
            go_wp2_with fail
            exact HB5.out.ret HK.out.1 (HE4.out.trans HK.out.2.1) (HA3.out.trans HK.out.2.2) (Or.inl ⟨rfl, rfl⟩) rfl rfl rfl rfl
end Go.Proofs.YtdgedlhefjmcpaaGreatDoor.TreeP
