/- The law RunFuel walked. Conditions: the variables lie as the program lays them. -/
import Derived.Test.YtdgedlhefjmcpaaDoorRunRight
import Derived.Test.YtdgedlhefjmcpaaDoorPick
import Derived.Test.YtdgedlhefjmcpaaDoorNums
import Derived.Deep.QuietTactic
import Derived.BigQuiet
import Derived.Deep.DeepCutAuto
namespace Go.Proofs.YtdgedlhefjmcpaaDoor.TreeP
open Go.RowKit Go.Proofs.YtdgedlhefjmcpaaDoor.Wo
set_option linter.unusedVariables false
set_option linter.unusedSimpArgs false
theorem InAt.take {W : World} {S : Nat → Prop} {a : Option Addr} {n c : Nat} {l : List Int} (h : InAt W S (.slice a n c) l) (k : Nat) (hk : k ≤ n) : InAt W S (.slice a k c) (l.take k) := by
  obtain ⟨a', n', c', e, h1, h2, h3, h4⟩ := h
  obtain ⟨rfl, rfl, rfl⟩ := Value.slice.inj e
  refine ⟨a, k, c, rfl, by rw [List.length_take]; omega, by omega, h3, fun i x hx => ?_⟩
  rw [List.getElem?_take] at hx
  split at hx
  · exact h4 i x hx
  · cases hx
theorem InAt.form {W : World} {S : Nat → Prop} {v : Value} {l : List Int} (h : InAt W S v l) : ∃ a c, v = .slice a l.length c ∧ l.length ≤ c ∧ c ≤ 9223372036854775807 := by
  obtain ⟨a', n', c', e, h1, h2, h3, h4⟩ := h
  subst h1
  exact ⟨a', c', e, h2, h3⟩
theorem quiet_eq {W : World} {v1 v2 : Value} {l m : List Int} (h1 : InAt W None v1 l) (h2 : InAt W None v2 m) (hlm : l = m) (n : Nat) :
    Calls Tryd.prog 15 #[v1, v2] (W.drewN n) fun e w'' => e = .returned (.bool true) ∧ ∃ m, w'' = W.drewN m := by
  subst hlm
  exact (equal_quiet v1 v2 l l (W.drewN n) (h1.mods ((Mods.refl None W).drewN n) (fun _ _ f => f)) (h2.mods ((Mods.refl None W).drewN n) (fun _ _ f => f))).mono fun _ _ ⟨he, d, hw⟩ => ⟨by rw [he]; simp, n + d, by rw [hw, World.drewN_drewN]⟩
/-- How both runs end: x of less fuel, y of more. -/
def Fueled (x y : Int × Int × List Int) : Prop := x.2.2 <+: y.2.2 ∧ (x.1 ≠ 6 → x = y) ∧ (x.1 ≠ 1 → x.2.1 = 0)
theorem Fueled.cases {x y : Int × Int × List Int} (h : Fueled x y) : (∃ o y1 y2 yo, x = (6, 0, o) ∧ y = (y1, y2, yo) ∧ o <+: yo) ∨ (∃ c o, x = (1, c, o) ∧ y = (1, c, o)) ∨ (∃ w o, x = (w, 0, o) ∧ y = (w, 0, o) ∧ w ≠ 6 ∧ w ≠ 1) := by
  obtain ⟨x1, x2, xo⟩ := x
  obtain ⟨y1, y2, yo⟩ := y
  obtain ⟨h1, h2, h3⟩ := h
  simp only at h1 h2 h3
  by_cases h6 : x1 = 6
  · subst h6
    have := h3 (by decide)
    subst this
    exact Or.inl ⟨_, _, _, _, rfl, rfl, h1⟩
  · have he := h2 h6
    by_cases h7 : x1 = 1
    · subst h7
      exact Or.inr (Or.inl ⟨_, _, rfl, he.symm⟩)
    · have := h3 h7
      subst this
      exact Or.inr (Or.inr ⟨_, _, rfl, he.symm, h6, h7⟩)
set_option maxRecDepth 100000 in
set_option maxHeartbeats 1600000 in
theorem runFuel_walk (s : List UInt8) (iv : Value) (given : List Int) (a b : Int) (W : World) (hL : All W) (hs : s.length ≤ 9223372036854775807) (hi : InAt W None iv given) (hi0 : ∀ n c, iv = .slice none n c → c = 0) :
    Calls Tryd.prog 6 #[str s, iv, .int .i64 a, .int .i64 b] W fun e w => e = .returned (.bool true) ∧ Mods None W w := by
  obtain ⟨ia, ic, rfl, hic, hic2⟩ := hi.form
  by_cases h20 : 20 < given.length
  · have h20i : (20 : Int) < (given.length : Int) := by omega
    go_enter Tryd.func6, Tryd.ntmps6
    go_wp2_with fail
    go_ret
    exact ⟨rfl, Mods.refl _ _⟩
  have h20i : ¬ (20 : Int) < (given.length : Int) := by omega
  have HF := Lib.hid (goes_yes W hL)
  have HR := Lib.hid (fun (w : World) (hm : Mods None W w) => right_any s w (hL.next hm) hs)
  have HI := Lib.hid (And.intro hi hi0)
  generalize hgn : given.length = gn at *
  have HGN := Lib.hid hgn
  clear hgn hi hi0 hL
  unfold str at *
  go_enter Tryd.func6, Tryd.ntmps6
  go_wp2_with fail
  go_at_call 12
  refine HF.out.mono ?_
  rintro e w1 ⟨rfl, hm1⟩
  have HM1 := Lib.hid hm1
  clear hm1 HF
  go_wp2_with fail
  go_at_call 13
  refine (HR.out _ HM1.out).mono ?_
  rintro e w2 ⟨(⟨L, la, lc, rfl, hrd, hck, hfs, -⟩ | ⟨la, ln, lc, rfl⟩), hm2⟩
  rotate_left
  · have HM2 := Lib.hid (HM1.out.trans hm2)
    clear hm2 HR
    go_wp2_with fail
    go_ret
    exact ⟨rfl, HM2.out⟩
  have HM2 := Lib.hid (HM1.out.trans hm2)
  have HFS := Lib.hid hfs
  clear hm2 HR hfs
  have hpa := pkn_in a 200 (by decide)
  have hpb := pkn_in b 200 (by decide)
  have HPA := Lib.hid (fun w => pick_any a 200 w (by decide) (by decide))
  have HPB := Lib.hid (fun w => pick_any b 200 w (by decide) (by decide))
  generalize pkn a 200 = pa at *
  generalize pkn b 200 = pb at *
  obtain ⟨f1, x, hx⟩ := run_soon L given pa.toNat
  obtain ⟨f2, y, hy⟩ := run_soon L given (pa + pb).toNat
  have hx := hx (max f1 f2) (by omega)
  have hy := hy (max f1 f2) (by omega)
  have hxy : Fueled x y := run_more (by omega) hx hy
  have HRX := Lib.hid (fun (v iv : Value) (w : World) (hv : FsAt w None v L) (hi : InAt w None iv given) (h0 : ∀ n c, iv = .slice none n c → c = 0) => run_good hrd hck _ given pa _ hx v iv w hv hi h0 (by have := HGN.out; omega) (by omega) (by omega))
  have HRY := Lib.hid (fun (v iv : Value) (w : World) (hv : FsAt w None v L) (hi : InAt w None iv given) (h0 : ∀ n c, iv = .slice none n c → c = 0) => run_good hrd hck _ given (pa + pb) _ hy v iv w hv hi h0 (by have := HGN.out; omega) (by omega) (by omega))
  obtain ⟨hpa0, hpa1⟩ := hpa
  obtain ⟨hpb0, hpb1⟩ := hpb
  generalize L.length = ln at *
  clear hx hy hrd hck
  go_wp2_with fail
  go_at_call 10
  refine (HPA.out _).mono ?_
  rintro e w3 ⟨rfl, rfl⟩
  clear HPA
  go_wp2_with fail
  go_at_call 10
  refine (HPB.out _).mono ?_
  rintro e w3 ⟨rfl, rfl⟩
  clear HPB
  go_wp2_with fail
  go_at_call 14
  refine (HRX.out _ _ _ HFS.out (HI.out.1.mods HM2.out (fun _ _ f => f)) HI.out.2).mono ?_
  rintro e w3 ⟨u, rfl, hu, hm3⟩
  have HM23 := Lib.hid hm3
  have HM3 := Lib.hid (HM2.out.trans hm3)
  have HU := Lib.hid hu
  clear hm3 hu
  go_wp2_with fail
  go_at_call 14
  refine (HRY.out _ _ _ (HFS.out.mods HM23.out (fun _ _ f => f)) (HI.out.1.mods HM3.out (fun _ _ f => f)) HI.out.2).mono ?_
  rintro e w4 ⟨u2, rfl, hu2, hm4⟩
  have HM4 := Lib.hid (HM3.out.trans hm4)
  have HM24 := Lib.hid (HM23.out.trans hm4)
  obtain ⟨xa, xc, rfl, hx1, hx2, hx3⟩ := HU.out.mods hm4
  obtain ⟨ya, yc, rfl, hy1, hy2, hy3⟩ := hu2
  clear HU hm4
  obtain ⟨x1, x2, o⟩ := x
  obtain ⟨y1, y2, yo⟩ := y
  simp only at hx1 hx2 hx3 hy1 hy2 hy3 ⊢
  have hpre : o <+: yo := hxy.1
  have HXY := Lib.hid hxy
  have hnm : o.length ≤ yo.length := hpre.length_le
  have hxn : o.length ≤ xc ∧ xc ≤ 9223372036854775807 := by obtain ⟨_, _, e, k1, k2⟩ := hx1.form; obtain ⟨-, -, rfl⟩ := Value.slice.inj e; exact ⟨k1, k2⟩
  have hyn : yo.length ≤ yc ∧ yc ≤ 9223372036854775807 := by obtain ⟨_, _, e, k1, k2⟩ := hy1.form; obtain ⟨-, -, rfl⟩ := Value.slice.inj e; exact ⟨k1, k2⟩
  have ht := hy1.take o.length hnm
  rw [List.prefix_iff_eq_take.1 hpre |>.symm] at ht
  obtain ⟨n, hn⟩ : ∃ n, n = o.length := ⟨_, rfl⟩
  obtain ⟨m, hm⟩ : ∃ m, m = yo.length := ⟨_, rfl⟩
  rw [← hn] at hx1 hx2 hxn hnm ht ⊢
  rw [← hm] at hy1 hy2 hyn hnm ⊢
  have HNO := Lib.hid (And.intro hn hm)
  obtain ⟨W5, hW5⟩ : ∃ W5, W5 = ((w4.alloc (.cells #[.int .i64 x1, .int .i64 x2, .slice xa n xc] 41)).alloc (.cells #[.int .i64 y1, .int .i64 y2, .slice ya m yc] 41)) := ⟨_, rfl⟩
  have hm5 : Mods None w4 W5 := by rw [hW5]; exact ((Mods.refl _ _).alloc _).alloc _
  have HBX : Blk W5 w4.heap.size [.int .i64 x1, .int .i64 x2, .slice xa n xc] 41 := by rw [hW5]; exact (Blk.new w4 _ _).alloc _
  have HBY : Blk W5 (w4.heap.size + 1) [.int .i64 y1, .int .i64 y2, .slice ya m yc] 41 := by
    rw [hW5]
    have := Blk.new (w4.alloc (.cells #[.int .i64 x1, .int .i64 x2, .slice xa n xc] 41)) #[.int .i64 y1, .int .i64 y2, .slice ya m yc] 41
    simpa using this
  have HIX := Lib.hid (hx1.mods hm5 (fun _ _ f => f))
  have HIT := Lib.hid (ht.mods hm5 (fun _ _ f => f))
  have HB := Lib.hid (And.intro HBX HBY)
  have HM5 := Lib.hid (HM4.out.trans hm5)
  have HM45 := Lib.hid hm5
  have cx0 := HBX.cell (i := 0) rfl
  have cx1 := HBX.cell (i := 1) rfl
  have cx2 := HBX.cell (i := 2) rfl
  have cy0 := HBY.cell (i := 0) rfl
  have cy1 := HBY.cell (i := 1) rfl
  have cy2 := HBY.cell (i := 2) rfl
  clear hx1 hy1 ht hm5 HBX HBY hxy hpre hn hm
  obtain ⟨hxn1, hxn2⟩ := hxn
  obtain ⟨hyn1, hyn2⟩ := hyn
  go_wp2_with fail
  rw [← hW5]
  clear hW5
  go_cut [64] (fun v w => v = .bool false ∧ Hid (∃ d, w = W5.drewN d))
  case first =>
    cases ya with
    | none =>
      obtain rfl := hy3 rfl
      obtain rfl : m = 0 := by omega
      obtain rfl : n = 0 := by omega
      go_quiet ((go_at_call 15; with_reducible exact quiet_eq HIX.out HIT.out rfl _))
      go_wp2_with fail
      go_meet
      case rel => exact ⟨rfl, Lib.hid (by first | exact ⟨_, rfl⟩ | assumption)⟩
    | some p2 =>
      have hcut : n ≤ yc := by omega
      have hadd : p2.add 0 = p2 := by simp [Addr.add]
      go_quiet ((go_at_call 15; with_reducible exact quiet_eq HIX.out HIT.out rfl _))
      go_wp2_with fail
      go_meet
      case rel => exact ⟨congrArg Value.bool (by rw [decide_eq_false (by omega), decide_eq_false (by omega)]; rfl), Lib.hid ⟨_, rfl⟩⟩
  case rest =>
    obtain ⟨rfl, hq⟩ := hcut
    have hm0 : Mods None W5 wc := by obtain ⟨d, rfl⟩ := hq.out; exact (Mods.refl _ _).drewN d
    have HBC := Lib.hid (And.intro (HB.out.1.mods hm0 (fun f => f)) (HB.out.2.mods hm0 (fun f => f)))
    have HM2C := Lib.hid ((HM24.out.trans HM45.out).trans hm0)
    have HMC := Lib.hid (HM5.out.trans hm0)
    have HIC := Lib.hid (HIX.out.mods hm0 (fun _ _ f => f))
    clear hm0 hq cx0 cx1 cx2 cy0 cy1 cy2 HB HM45 HM24 HM5 HIX HIT HM4 HM23 HM3 HRY
    have hcs := HXY.out.cases
    simp only [Prod.mk.injEq] at hcs
    clear HXY
    rcases hcs with ⟨o', y1', y2', yo', ⟨rfl, rfl, rfl⟩, ⟨rfl, rfl, rfl⟩, -⟩ | ⟨cc, o', ⟨rfl, rfl, rfl⟩, ⟨rfl, rfl, rfl⟩⟩ | ⟨ww, o', ⟨rfl, rfl, rfl⟩, ⟨rfl, rfl, rfl⟩, hw6, hw1⟩
    · have cx0 := HBC.out.1.cell (i := 0) rfl
      have cx1 := HBC.out.1.cell (i := 1) rfl
      have cx2 := HBC.out.1.cell (i := 2) rfl
      have cy0 := HBC.out.2.cell (i := 0) rfl
      have cy1 := HBC.out.2.cell (i := 1) rfl
      have cy2 := HBC.out.2.cell (i := 2) rfl
      go_wp2_with (at_builtin; refine wpList_copy rfl (.tmp 102) (.tmp 103) rfl wc.heap.size (.slice (some ⟨wc.heap.size, 0, none⟩) 0 0) (.slice ia gn ic) rfl (own_C wc) (by simp) None given rfl ((HI.out.1.mods HMC.out (fun _ _ f => f)).mods ((Mods.refl _ _).alloc _) (fun _ _ f => f)) HI.out.2 (by have := HGN.out; omega) ?_; rintro v' w6 hown hm6 ⟨oa, oc, rfl⟩ hloc; have H6 := Lib.hid (And.intro hown (And.intro hm6 hloc)); clear hown hm6 hloc)
      have hmc6 : Mods None wc w6 := ((Mods.refl None wc).alloc (.cells #[] 2)).trans' H6.out.2.1 (fun k hk hlt => by simp only [Value.ownBlock, Option.some.injEq] at hk; omega)
      have hin := in_of_row (S := None) H6.out.1 (fun _ _ f => f)
      have hn0 : ∀ n c, (Value.slice oa given.length oc) = .slice none n c → c = 0 := fun n c e => by
        obtain ⟨e1, -, e2⟩ := Value.slice.inj e
        rw [← e2]
        exact own_none H6.out.1 e1
      have HC6 := Lib.hid (HRX.out (.slice la ln lc) _ w6 (HFS.out.mods (HM2C.out.trans hmc6) (fun _ _ f => f)) hin hn0)
      have HMC6 := Lib.hid (HMC.out.trans hmc6)
      have HX6 := Lib.hid (And.intro (HBC.out.1.mods hmc6 (fun f => f)) (HIC.out.mods hmc6 (fun _ _ f => f)))
      clear hmc6 hin hn0 H6 HRX cx0 cx1 cx2 cy0 cy1 cy2
      go_at_call 14
      refine HC6.out.mono ?_
      rintro e w7 ⟨u, rfl, ⟨za, zc, rfl, hz1, hz2, hz3⟩, hm7⟩
      simp only at hz1 hz2 hz3 ⊢
      have hb7 := HX6.out.1.mods hm7 (fun f => f)
      have HI7 := Lib.hid (HX6.out.2.mods hm7 (fun _ _ f => f))
      have HZ := Lib.hid hz1
      have HM7 := Lib.hid (HMC6.out.trans hm7)
      have cx0 := hb7.cell (i := 0) rfl
      have cx1 := hb7.cell (i := 1) rfl
      have cx2 := hb7.cell (i := 2) rfl
      have hlt7 := hb7.lt
      have hne7 : w4.heap.size ≠ w7.heap.size := by omega
      clear hb7 hm7 hz1 hz2 hz3
      go_wp2_with fail
      go_at_call 15
      refine (equal_any _ _ _ _ _ (HZ.out.mods ((Mods.refl None w7).alloc _) (fun _ _ f => f)) (HI7.out.mods ((Mods.refl None w7).alloc _) (fun _ _ f => f))).mono ?_
      rintro e w8 ⟨rfl, hm8⟩
      have HM8 := Lib.hid (HM7.out.trans (((Mods.refl None w7).alloc _).trans hm8))
      clear hm8
      rw [beq_self_eq_true]
      go_wp2_with fail
      go_ret
      exact ⟨rfl, HM8.out⟩
    · obtain rfl : m = n := HNO.out.2.trans HNO.out.1.symm
      have cx0 := HBC.out.1.cell (i := 0) rfl
      have cx1 := HBC.out.1.cell (i := 1) rfl
      have cx2 := HBC.out.1.cell (i := 2) rfl
      have cy0 := HBC.out.2.cell (i := 0) rfl
      have cy1 := HBC.out.2.cell (i := 1) rfl
      have cy2 := HBC.out.2.cell (i := 2) rfl
      go_wp2_with (at_builtin; refine wpList_copy rfl (.tmp 102) (.tmp 103) rfl wc.heap.size (.slice (some ⟨wc.heap.size, 0, none⟩) 0 0) (.slice ia gn ic) rfl (own_C wc) (by simp) None given rfl ((HI.out.1.mods HMC.out (fun _ _ f => f)).mods ((Mods.refl _ _).alloc _) (fun _ _ f => f)) HI.out.2 (by have := HGN.out; omega) ?_; rintro v' w6 hown hm6 ⟨oa, oc, rfl⟩ hloc; have H6 := Lib.hid (And.intro hown (And.intro hm6 hloc)); clear hown hm6 hloc)
      have hmc6 : Mods None wc w6 := ((Mods.refl None wc).alloc (.cells #[] 2)).trans' H6.out.2.1 (fun k hk hlt => by simp only [Value.ownBlock, Option.some.injEq] at hk; omega)
      have hin := in_of_row (S := None) H6.out.1 (fun _ _ f => f)
      have hn0 : ∀ n c, (Value.slice oa given.length oc) = .slice none n c → c = 0 := fun n c e => by
        obtain ⟨e1, -, e2⟩ := Value.slice.inj e
        rw [← e2]
        exact own_none H6.out.1 e1
      have HC6 := Lib.hid (HRX.out (.slice la ln lc) _ w6 (HFS.out.mods (HM2C.out.trans hmc6) (fun _ _ f => f)) hin hn0)
      have HMC6 := Lib.hid (HMC.out.trans hmc6)
      have HX6 := Lib.hid (And.intro (HBC.out.1.mods hmc6 (fun f => f)) (HIC.out.mods hmc6 (fun _ _ f => f)))
      clear hmc6 hin hn0 H6 HRX cx0 cx1 cx2 cy0 cy1 cy2
      go_at_call 14
      refine HC6.out.mono ?_
      rintro e w7 ⟨u, rfl, ⟨za, zc, rfl, hz1, hz2, hz3⟩, hm7⟩
      simp only at hz1 hz2 hz3 ⊢
      have hb7 := HX6.out.1.mods hm7 (fun f => f)
      have HI7 := Lib.hid (HX6.out.2.mods hm7 (fun _ _ f => f))
      have HZ := Lib.hid hz1
      have HM7 := Lib.hid (HMC6.out.trans hm7)
      have cx0 := hb7.cell (i := 0) rfl
      have cx1 := hb7.cell (i := 1) rfl
      have cx2 := hb7.cell (i := 2) rfl
      have hlt7 := hb7.lt
      have hne7 : w4.heap.size ≠ w7.heap.size := by omega
      clear hb7 hm7 hz1 hz2 hz3
      go_wp2_with fail
      go_at_call 15
      refine (equal_any _ _ _ _ _ (HZ.out.mods ((Mods.refl None w7).alloc _) (fun _ _ f => f)) (HI7.out.mods ((Mods.refl None w7).alloc _) (fun _ _ f => f))).mono ?_
      rintro e w8 ⟨rfl, hm8⟩
      have HM8 := Lib.hid (HM7.out.trans (((Mods.refl None w7).alloc _).trans hm8))
      clear hm8
      rw [beq_self_eq_true]
      go_wp2_with fail
      go_ret
      exact ⟨rfl, HM8.out⟩
    · obtain rfl : m = n := HNO.out.2.trans HNO.out.1.symm
      have cx0 := HBC.out.1.cell (i := 0) rfl
      have cx1 := HBC.out.1.cell (i := 1) rfl
      have cx2 := HBC.out.1.cell (i := 2) rfl
      have cy0 := HBC.out.2.cell (i := 0) rfl
      have cy1 := HBC.out.2.cell (i := 1) rfl
      have cy2 := HBC.out.2.cell (i := 2) rfl
      go_wp2_with (at_builtin; refine wpList_copy rfl (.tmp 102) (.tmp 103) rfl wc.heap.size (.slice (some ⟨wc.heap.size, 0, none⟩) 0 0) (.slice ia gn ic) rfl (own_C wc) (by simp) None given rfl ((HI.out.1.mods HMC.out (fun _ _ f => f)).mods ((Mods.refl _ _).alloc _) (fun _ _ f => f)) HI.out.2 (by have := HGN.out; omega) ?_; rintro v' w6 hown hm6 ⟨oa, oc, rfl⟩ hloc; have H6 := Lib.hid (And.intro hown (And.intro hm6 hloc)); clear hown hm6 hloc)
      have hmc6 : Mods None wc w6 := ((Mods.refl None wc).alloc (.cells #[] 2)).trans' H6.out.2.1 (fun k hk hlt => by simp only [Value.ownBlock, Option.some.injEq] at hk; omega)
      have hin := in_of_row (S := None) H6.out.1 (fun _ _ f => f)
      have hn0 : ∀ n c, (Value.slice oa given.length oc) = .slice none n c → c = 0 := fun n c e => by
        obtain ⟨e1, -, e2⟩ := Value.slice.inj e
        rw [← e2]
        exact own_none H6.out.1 e1
      have HC6 := Lib.hid (HRX.out (.slice la ln lc) _ w6 (HFS.out.mods (HM2C.out.trans hmc6) (fun _ _ f => f)) hin hn0)
      have HMC6 := Lib.hid (HMC.out.trans hmc6)
      have HX6 := Lib.hid (And.intro (HBC.out.1.mods hmc6 (fun f => f)) (HIC.out.mods hmc6 (fun _ _ f => f)))
      clear hmc6 hin hn0 H6 HRX cx0 cx1 cx2 cy0 cy1 cy2
      go_at_call 14
      refine HC6.out.mono ?_
      rintro e w7 ⟨u, rfl, ⟨za, zc, rfl, hz1, hz2, hz3⟩, hm7⟩
      simp only at hz1 hz2 hz3 ⊢
      have hb7 := HX6.out.1.mods hm7 (fun f => f)
      have HI7 := Lib.hid (HX6.out.2.mods hm7 (fun _ _ f => f))
      have HZ := Lib.hid hz1
      have HM7 := Lib.hid (HMC6.out.trans hm7)
      have cx0 := hb7.cell (i := 0) rfl
      have cx1 := hb7.cell (i := 1) rfl
      have cx2 := hb7.cell (i := 2) rfl
      have hlt7 := hb7.lt
      have hne7 : w4.heap.size ≠ w7.heap.size := by omega
      clear hb7 hm7 hz1 hz2 hz3
      go_wp2_with fail
      go_at_call 15
      refine (equal_any _ _ _ _ _ (HZ.out.mods ((Mods.refl None w7).alloc _) (fun _ _ f => f)) (HI7.out.mods ((Mods.refl None w7).alloc _) (fun _ _ f => f))).mono ?_
      rintro e w8 ⟨rfl, hm8⟩
      have HM8 := Lib.hid (HM7.out.trans (((Mods.refl None w7).alloc _).trans hm8))
      clear hm8
      rw [beq_self_eq_true]
      go_wp2_with fail
      go_ret
      exact ⟨rfl, HM8.out⟩
theorem nums_in {W : World} {v : Value} {l : List Int} (h : Wo.NumsAt W v l) : InAt W None v l ∧ ∀ n c, v = .slice none n c → c = 0 := by
  obtain ⟨a, n, c, rfl, h1, h2, h3, h4, -, h5⟩ := h
  refine ⟨⟨a, n, c, rfl, h1, h2, h3, fun i x hx => ?_⟩, fun n' c' e => ?_⟩
  · obtain ⟨g, o, e1, e2⟩ := h5 i x hx
    exact ⟨g, o, e1, fun f => f, e2⟩
  · obtain ⟨e1, -, e2⟩ := Value.slice.inj e
    rw [← e2]
    exact h4 e1
theorem str_fits {s : ByteArray} (h : s.size ≤ maxLen) : s.data.toList.length ≤ 9223372036854775807 := by
  unfold maxLen at h
  simpa using h
end Go.Proofs.YtdgedlhefjmcpaaDoor.TreeP
