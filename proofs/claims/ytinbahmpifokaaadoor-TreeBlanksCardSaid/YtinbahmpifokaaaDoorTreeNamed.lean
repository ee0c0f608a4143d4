/- What begins with a name. Conditions: what is read within is read so. -/
import Derived.Test.YtinbahmpifokaaaDoorTreeSt
import Derived.Test.YtinbahmpifokaaaDoorTreeExprs
namespace Go.Proofs.YtinbahmpifokaaaDoor.TreeP
open Go.RowKit Go.Proofs.YtinbahmpifokaaaDoor.Wo
set_option linter.unusedVariables false
set_option linter.unusedSimpArgs false
/-- Behind the call of a statement that is a call. -/
theorem call_done {b sb : Nat} {S : Nat → Prop} {W w3 : World} {ta : Int} {n : List UInt8} {l : List Ex} {vs : List Value} {r3 : List Tok} {oa : Option Addr} {on oc : Nat} (hS : S sb) (hlt : b < sb) (HR3 : Rd w3 b S r3)
    (HB3 : Blk w3 sb [.int .i64 0, .int .i64 ta, .string ⟨n.toArray⟩, .pointer none, .pointer none, .slice none 0 0, .slice none 0 0] 80)
    (HW3 : RowAt w3 S 78 1 (.slice oa on oc) l.length vs) (HV3 : ExsAt w3 S l vs) (HM3 : Mods (Two b sb) W w3) :
    Got (Two b sb) W b (fun s v w => v = .tuple #[] ∧ ∃ cs, Blk w sb cs 80 ∧ StAt w S s cs) (some (.ok (.call ta (.call ta n l), r3))) (.returned (.tuple #[]))
      ((((w3.setCell ⟨sb, 4, none⟩ (.pointer (some ⟨w3.heap.size, 0, none⟩))).setCell ⟨sb, 0, none⟩ (.int .i64 8)).setCell ⟨sb, 2, none⟩ (.string ⟨#[]⟩)).alloc (.cells #[.int .i64 5, .int .i64 ta, .int .i64 0, .string ⟨n.toArray⟩, .string ⟨#[]⟩, .pointer none, .pointer none, .slice oa on oc] 101)) := by
  have hm := ((mods_put w3 sb 4 (.pointer (some ⟨w3.heap.size, 0, none⟩))).trans (mods_put _ sb 0 (.int .i64 8))).trans (mods_put _ sb 2 (.string ⟨#[]⟩))
  have hm2 := hm.alloc (.cells #[.int .i64 5, .int .i64 ta, .int .i64 0, .string ⟨n.toArray⟩, .string ⟨#[]⟩, .pointer none, .pointer none, .slice oa on oc] 101)
  have hmS := hm2.mono (T := S) (fun k _ hk => by rw [hk]; exact hS)
  have hR := HR3.far hm (by rintro k rfl; exact hlt)
  have hB := ((blk_put (ds := _) (blk_put (ds := _) (blk_put (ds := _) HB3 4 (.pointer (some ⟨w3.heap.size, 0, none⟩)) rfl) 0 (.int .i64 8) rfl) 2 (.string ⟨#[]⟩) rfl).alloc (.cells #[.int .i64 5, .int .i64 ta, .int .i64 0, .string ⟨n.toArray⟩, .string ⟨#[]⟩, .pointer none, .pointer none, .slice oa on oc] 101))
  have hN := Node.new hR.old #[.int .i64 5, .int .i64 ta, .int .i64 0, .string ⟨n.toArray⟩, .string ⟨#[]⟩, .pointer none, .pointer none, .slice oa on oc]
  have hsz : (((w3.setCell ⟨sb, 4, none⟩ (.pointer (some ⟨w3.heap.size, 0, none⟩))).setCell ⟨sb, 0, none⟩ (.int .i64 8)).setCell ⟨sb, 2, none⟩ (.string ⟨#[]⟩)).heap.size = w3.heap.size := by simp [World.setCell]
  rw [hsz] at hN
  refine ⟨_, rfl, ⟨rfl, _, hB, ?_⟩, (HR3.far hm2 (by rintro k rfl; exact hlt)).par, HM3.trans (mods_two hm2)⟩
  simp only [StAt]
  refine ⟨_, rfl, ?_⟩
  simp only [ExAt]
  exact ⟨_, _, hN, HW3.mods hmS (fun _ _ h => h), ExsAt.modsTo hmS (fun _ _ h => h) _ _ HV3⟩
set_option maxRecDepth 100000 in
set_option maxHeartbeats 1600000 in
theorem named_of (f : Nat) (A : AllC f) : NamedC (f + 1) := by
  intro b sb S ts W x hS hlt h hB hx
  simp only [namedF] at hx
  obtain ⟨ta, hta⟩ : ∃ ta, ta = headAt ts := ⟨_, rfl⟩
  rw [← hta] at hB hx
  have HX := Lib.hid hx
  have HR := Lib.hid h
  have HB := Lib.hid hB
  have hne : Hid (¬ sb = b) := Lib.hid (by omega)
  have HL := Lib.hid hlt
  have HS := Lib.hid hS
  clear hx h hB hta hlt hS
  go_enter Tryd.func49, Tryd.ntmps49
  go_wp2_with fail
  go_at_call 22
  refine name_of (Lib.hid (Mods.refl _ _)) HR HX ?_ ?_
  · rintro n a rfl g w HB HM1
    go_wp2
    exact ⟨rfl, g, rfl, HB.out, mods_one HM1.out⟩
  clear HX
  rintro n r - HX w1 HR1 hm1 -
  have HB1 := Lib.hid (HB.out.mods hm1.out hne.out)
  have c2 := HB1.out.cell (i := 2) rfl
  have f2 := HB1.out.free 2
  go_wp2_with fail
  go_at_call 36
  have hm2 := Lib.hid (mods_put w1 sb 2 (.string ⟨n.toArray⟩))
  have HB2 := Lib.hid (blk_put (ds := [.int .i64 0, .int .i64 ta, .string ⟨n.toArray⟩, .pointer none, .pointer none, .slice none 0 0, .slice none 0 0]) HB1.out 2 (.string ⟨n.toArray⟩) rfl)
  have HR2 := Lib.hid (HR1.out.far hm2.out (by rintro k rfl; exact HL.out))
  have HM2 := Lib.hid ((mods_one (sb := sb) hm1.out).trans (mods_two hm2.out))
  clear HB HB1 HR1 HR hm1
  obtain ⟨w2, hw2⟩ : ∃ q, q = w1.setCell ⟨sb, 2, none⟩ (.string ⟨n.toArray⟩) := ⟨_, rfl⟩
  rw [← hw2] at hm2 HB2 HR2 HM2 ⊢
  clear hm2 hw2 c2 f2
  refine see_of (s := [40]) HR2 HX ?_ ?_
  · clear HX
    rintro - HX
    have c1 := HB2.out.cell (i := 1) rfl
    have c2 := HB2.out.cell (i := 2) rfl
    have HRd := Lib.hid (HR2.out.quiet (Mods.refl None w2).drew)
    have HMd := Lib.hid HM2.out.drew
    go_wp2_with fail
    rcases bind_cases HX with ⟨n, a, hy, rfl⟩ | ⟨l, r3, hy, HX2⟩
    · have HC := Lib.hid (A.args b S 0 r _ _ (by omega) HRd.out hy)
      clear hy HX
      go_region_with (first | (go_at_call 54; refine HC.out.mono ?_; rintro e w3 ⟨g3, rfl, hb3, hm3⟩; refine panic_way Tryd.prog w3 ⟨rfl, g3, rfl, hb3, HMd.out.trans (mods_one hm3)⟩ ?_))
      all_goals trivial
    · have HC := Lib.hid (A.args b S 0 r _ _ (by omega) HRd.out hy)
      clear hy HX
      obtain rfl := (Option.some.inj HX2.out).symm
      go_region_with (first | (go_at_call 54; refine HC.out.mono ?_; rintro e w3 ⟨y3, rfl, ⟨vs, hr3, hv3⟩, hp3, hm3⟩; obtain ⟨oa, on, oc, rfl⟩ := RowAt.form hr3; have hB3 := HB2.out.drew.mods hm3 hne.out; have c31 := hB3.cell (i := 1) rfl; have c32 := hB3.cell (i := 2) rfl; have c34 := hB3.cell (i := 4) rfl; have c30 := hB3.cell (i := 0) rfl; have f34 := hB3.free 4; have f30 := hB3.free 0; have f32 := hB3.free 2; have hl3 := hB3.lt))
      all_goals
        have HR3 := Lib.hid (HRd.out.next hp3 hm3)
        have HW3 := Lib.hid hr3
        have HV3 := Lib.hid hv3
        have HM3 := Lib.hid (HMd.out.trans (mods_one hm3))
        have HB3 := Lib.hid hB3
        clear hp3 hm3 hv3 hr3 hB3
        go_wp2
        refine bodyPost_ret (results_none rfl _ _ _) rfl ?_
        exact call_done HS.out HL.out HR3.out HB3.out HW3.out HV3.out HM3.out
  clear HX
  rintro - HX
  go_wp2_with fail
  go_at_call 23
  refine take_of (s := [91]) (Lib.hid (Mods.refl _ _)) HR2 HX ?_ ?_
  · clear HX
    rintro - HX w3 HR3 hm3 -
    have HB3 := Lib.hid (HB2.out.mods hm3.out hne.out)
    have HM3 := Lib.hid (HM2.out.trans (mods_one hm3.out))
    clear hm3 HB2 HR2 HM2
    go_wp2_with fail
    go_at_call 48
    refine bind_of (Lib.hid (Mods.refl _ _)) HR3 HX (fun y hy => A.expr b S 0 1 r.tail w3 y (by omega) (by omega) HR3.out hy) ?_ ?_
    · rintro n a rfl g w HB HM1
      go_wp2
      exact ⟨rfl, g, rfl, HB.out, HM3.out.trans (mods_one HM1.out)⟩
    clear HX
    rintro i r4 - HX xv w4 hv HR4 hm4 -
    obtain ⟨g4, rfl⟩ := ExAt.ptr hv
    have HV4 := Lib.hid (show ExAt w4 S i _ from hv)
    have HB4 := Lib.hid (HB3.out.mods hm4.out hne.out)
    have HM4 := Lib.hid (HM3.out.trans (mods_one hm4.out))
    have c40 := HB4.out.cell (i := 0) rfl
    have c43 := HB4.out.cell (i := 3) rfl
    have f40 := HB4.out.free 0
    have f43 := HB4.out.free 3
    clear hm4 hv HB3 HR3 HM3
    go_wp2_with fail
    go_at_call 21
    have hm5 := Lib.hid ((mods_put w4 sb 0 (.int .i64 3)).trans (mods_put _ sb 3 (.pointer (some ⟨g4, 0, none⟩))))
    have HB5 := Lib.hid (blk_put (ds := [.int .i64 3, .int .i64 ta, .string ⟨n.toArray⟩, .pointer (some ⟨g4, 0, none⟩), .pointer none, .slice none 0 0, .slice none 0 0]) (blk_put (ds := _) HB4.out 0 (.int .i64 3) rfl) 3 (.pointer (some ⟨g4, 0, none⟩)) rfl)
    have HR5 := Lib.hid (HR4.out.far hm5.out (by rintro k rfl; exact HL.out))
    have HM5 := Lib.hid (HM4.out.trans (mods_two hm5.out))
    have HV5 := Lib.hid (HV4.out.mods (hm5.out.mono fun k _ hk => by rw [hk]; exact HS.out))
    obtain ⟨w5, hw5⟩ : ∃ q, q = (w4.setCell ⟨sb, 0, none⟩ (.int .i64 3)).setCell ⟨sb, 3, none⟩ (.pointer (some ⟨g4, 0, none⟩)) := ⟨_, rfl⟩
    rw [← hw5] at hm5 HB5 HR5 HM5 HV5 ⊢
    clear hw5 hm5 HB4 HR4 HM4 HV4 c40 c43 f40 f43
    refine must_of (s := [93]) (Lib.hid (Mods.refl _ _)) HR5 HX ?_ ?_
    · rintro n a rfl g w HB HM1
      go_wp2
      exact ⟨rfl, g, rfl, HB.out, HM5.out.trans (mods_one HM1.out)⟩
    clear HX
    rintro r6 - HX w6 HR6 hm6 -
    have HB6 := Lib.hid (HB5.out.mods hm6.out hne.out)
    have HM6 := Lib.hid (HM5.out.trans (mods_one hm6.out))
    have HV6 := Lib.hid (HV5.out.by HR5.out hm6.out)
    clear hm6 HB5 HR5 HM5 HV5
    go_wp2_with fail
    go_at_call 21
    refine must_of (s := [61]) (Lib.hid (Mods.refl _ _)) HR6 HX ?_ ?_
    · rintro n a rfl g w HB HM1
      go_wp2
      exact ⟨rfl, g, rfl, HB.out, HM6.out.trans (mods_one HM1.out)⟩
    clear HX
    rintro r7 - HX w7 HR7 hm7 -
    have HB7 := Lib.hid (HB6.out.mods hm7.out hne.out)
    have HM7 := Lib.hid (HM6.out.trans (mods_one hm7.out))
    have HV7 := Lib.hid (HV6.out.by HR6.out hm7.out)
    clear hm7 HB6 HR6 HM6 HV6
    go_wp2_with fail
    go_at_call 48
    refine bind_of (Lib.hid (Mods.refl _ _)) HR7 HX (fun y hy => A.expr b S 0 0 r7 w7 y (by omega) (by omega) HR7.out hy) ?_ ?_
    · rintro n a rfl g w HB HM1
      go_wp2
      exact ⟨rfl, g, rfl, HB.out, HM7.out.trans (mods_one HM1.out)⟩
    clear HX
    rintro v r8 - HX xv w8 hv HR8 hm8 -
    obtain ⟨g8, rfl⟩ := ExAt.ptr hv
    have HV8 := Lib.hid (show ExAt w8 S v _ from hv)
    have HI8 := Lib.hid (HV7.out.by HR7.out hm8.out)
    have HB8 := Lib.hid (HB7.out.mods hm8.out hne.out)
    have HM8 := Lib.hid (HM7.out.trans (mods_one hm8.out))
    have c84 := HB8.out.cell (i := 4) rfl
    have f84 := HB8.out.free 4
    clear hm8 hv HB7 HR7 HM7 HV7
    obtain rfl := (Option.some.inj HX.out).symm
    go_wp2
    go_end0
    have hm9 := mods_put w8 sb 4 (.pointer (some ⟨g8, 0, none⟩))
    have hmS := hm9.mono (T := S) (fun k _ hk => by rw [hk]; exact HS.out)
    refine ⟨_, rfl, ⟨rfl, _, blk_put (ds := _) HB8.out 4 _ rfl, ?_⟩, (HR8.out.far hm9 (by rintro k rfl; exact HL.out)).par, HM8.out.trans (mods_two hm9)⟩
    simp only [StAt]
    exact ⟨_, _, rfl, HI8.out.mods hmS, HV8.out.mods hmS⟩
  clear HX
  rintro - HX
  have c20 := HB2.out.cell (i := 0) rfl
  have f20 := HB2.out.free 0
  go_wp2_with fail
  go_at_call 21
  have hm5 := Lib.hid (mods_put w2 sb 0 (.int .i64 2))
  have HB5 := Lib.hid (blk_put (ds := [.int .i64 2, .int .i64 ta, .string ⟨n.toArray⟩, .pointer none, .pointer none, .slice none 0 0, .slice none 0 0]) HB2.out 0 (.int .i64 2) rfl)
  have HR5 := Lib.hid (HR2.out.far hm5.out (by rintro k rfl; exact HL.out))
  have HM5 := Lib.hid (HM2.out.trans (mods_two hm5.out))
  obtain ⟨w5, hw5⟩ : ∃ q, q = w2.setCell ⟨sb, 0, none⟩ (.int .i64 2) := ⟨_, rfl⟩
  rw [← hw5] at hm5 HB5 HR5 HM5 ⊢
  clear hw5 hm5 HB2 HR2 HM2 c20 f20
  refine must_of (s := [61]) (Lib.hid (Mods.refl _ _)) HR5 HX ?_ ?_
  · rintro n a rfl g w HB HM1
    go_wp2
    exact ⟨rfl, g, rfl, HB.out, HM5.out.trans (mods_one HM1.out)⟩
  clear HX
  rintro r7 - HX w7 HR7 hm7 -
  have HB7 := Lib.hid (HB5.out.mods hm7.out hne.out)
  have HM7 := Lib.hid (HM5.out.trans (mods_one hm7.out))
  clear hm7 HB5 HR5 HM5
  go_wp2_with fail
  go_at_call 48
  refine bind_of (Lib.hid (Mods.refl _ _)) HR7 HX (fun y hy => A.expr b S 0 0 r7 w7 y (by omega) (by omega) HR7.out hy) ?_ ?_
  · rintro n a rfl g w HB HM1
    go_wp2
    exact ⟨rfl, g, rfl, HB.out, HM7.out.trans (mods_one HM1.out)⟩
  clear HX
  rintro v r8 - HX xv w8 hv HR8 hm8 -
  obtain ⟨g8, rfl⟩ := ExAt.ptr hv
  have HV8 := Lib.hid (show ExAt w8 S v _ from hv)
  have HB8 := Lib.hid (HB7.out.mods hm8.out hne.out)
  have HM8 := Lib.hid (HM7.out.trans (mods_one hm8.out))
  have c84 := HB8.out.cell (i := 4) rfl
  have f84 := HB8.out.free 4
  clear hm8 hv HB7 HR7 HM7
  obtain rfl := (Option.some.inj HX.out).symm
  go_wp2
  go_end0
  have hm9 := mods_put w8 sb 4 (.pointer (some ⟨g8, 0, none⟩))
  have hmS := hm9.mono (T := S) (fun k _ hk => by rw [hk]; exact HS.out)
  refine ⟨_, rfl, ⟨rfl, _, blk_put (ds := _) HB8.out 4 _ rfl, ?_⟩, (HR8.out.far hm9 (by rintro k rfl; exact HL.out)).par, HM8.out.trans (mods_two hm9)⟩
  simp only [StAt]
  exact ⟨_, rfl, HV8.out.mods hmS⟩
end Go.Proofs.YtinbahmpifokaaaDoor.TreeP
