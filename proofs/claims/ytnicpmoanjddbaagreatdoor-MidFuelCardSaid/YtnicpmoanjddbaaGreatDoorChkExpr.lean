/- The checker's look at any expression. Conditions: its functions, names, and the expression lie. -/
import Derived.Test.YtnicpmoanjddbaaGreatDoorChkEx
namespace Go.Proofs.YtnicpmoanjddbaaGreatDoor.TreeP
open Go.RowKit Go.Proofs.YtnicpmoanjddbaaGreatDoor.Wo
set_option linter.unusedVariables false
set_option linter.unusedSimpArgs false
theorem chk_sub {L : List Fn} {N : Nm} {e : Ex} (he : ExK L N e) {b m : Nat} {v : Value} {W : World} (hC : Chk W b L N m) (hv : ExAt W (· = b) e v) (k : Int) (w : World) (hm : Mods None W w) :
    Calls Tryz.prog 101 #[.pointer (some ⟨b, 0, none⟩), v, .int .i64 k] w (KGot w (fun (_ : Unit) => .tuple #[]) (wantK L N e k)) :=
  want_of he b m v k w (hC.mods hm) (hv.mods (hm.mono fun _ _ f => f.elim))
set_option maxRecDepth 100000 in
set_option maxHeartbeats 1000000 in
theorem exprk_num (L : List Fn) (N : Nm) (a n : Int) : ExK L N (.num a n) := by
  intro b m v W r hC hv hr
  simp only [exprK] at hr
  subst hr
  simp only [ExAt] at hv
  obtain ⟨g, rfl, _, hg⟩ := hv
  have c0 : W.cell? ⟨g, 0, none⟩ = some (.int .i64 1) := hg.cell rfl
  clear hC hg
  unfold KGot
  go_enter Tryz.func100, Tryz.ntmps100
  go_wp2_with fail
  go_ret
  exact ⟨rfl, Mods.refl _ _⟩
set_option maxRecDepth 100000 in
set_option maxHeartbeats 1000000 in
theorem exprk_input (L : List Fn) (N : Nm) (a : Int) : ExK L N (.input a) := by
  intro b m v W r hC hv hr
  simp only [exprK] at hr
  subst hr
  simp only [ExAt] at hv
  obtain ⟨g, rfl, _, hg⟩ := hv
  have c0 : W.cell? ⟨g, 0, none⟩ = some (.int .i64 9) := hg.cell rfl
  clear hC hg
  unfold KGot
  go_enter Tryz.func100, Tryz.ntmps100
  go_wp2_with fail
  go_ret
  exact ⟨rfl, Mods.refl _ _⟩
set_option maxRecDepth 100000 in
set_option maxHeartbeats 1000000 in
theorem exprk_un {L : List Fn} {N : Nm} (a : Int) (op : List UInt8) {x : Ex} (hx : ExK L N x) : ExK L N (.un a op x) := by
  intro b m v W r hC hv hr
  have HX : Hid (bindK (wantK L N x 1) (fun _ => .ok 1) = r) := Lib.hid (by rw [← hr]; simp only [exprK, wantK, bindK_assoc])
  simp only [ExAt] at hv
  obtain ⟨xv, ⟨g, rfl, _, hg⟩, hxv⟩ := hv
  have HW := Lib.hid (chk_sub hx hC hxv 1 W (Mods.refl _ _))
  have HM := Lib.hid (Mods.refl None W)
  have c0 : W.cell? ⟨g, 0, none⟩ = some (.int .i64 4) := hg.cell rfl
  have c5 : W.cell? ⟨g, 5, none⟩ = some xv := hg.cell rfl
  obtain ⟨xg, rfl⟩ := hxv.ptr
  clear hC hg hr hxv hx
  go_enter Tryz.func100, Tryz.ntmps100
  go_wp2_with fail
  go_at_call 101
  refine kbind_of HM HX HW.out ?_ ?_
  · rintro n a rfl g w HB HM1
    go_wp2
    exact ⟨rfl, ⟨g, rfl, HB.out⟩, HM1.out⟩
  · intro t _ HX2 w HMw HM1
    obtain rfl : r = .ok 1 := HX2.out.symm
    clear HX HX2 HW c0 c5
    go_wp2_with fail
    go_ret
    exact ⟨rfl, HM1.out⟩
set_option maxRecDepth 100000 in
set_option maxHeartbeats 1000000 in
theorem exprk_new {L : List Fn} {N : Nm} (a : Int) {x : Ex} (hx : ExK L N x) : ExK L N (.new a x) := by
  intro b m v W r hC hv hr
  have HX : Hid (bindK (wantK L N x 1) (fun _ => .ok 2) = r) := Lib.hid (by rw [← hr]; simp only [exprK, wantK, bindK_assoc])
  simp only [ExAt] at hv
  obtain ⟨xv, ⟨g, rfl, _, hg⟩, hxv⟩ := hv
  have HW := Lib.hid (chk_sub hx hC hxv 1 W (Mods.refl _ _))
  have HM := Lib.hid (Mods.refl None W)
  have c0 : W.cell? ⟨g, 0, none⟩ = some (.int .i64 6) := hg.cell rfl
  have c5 : W.cell? ⟨g, 5, none⟩ = some xv := hg.cell rfl
  obtain ⟨xg, rfl⟩ := hxv.ptr
  clear hC hg hr hxv hx
  go_enter Tryz.func100, Tryz.ntmps100
  go_wp2_with fail
  go_at_call 101
  refine kbind_of HM HX HW.out ?_ ?_
  · rintro n a rfl g w HB HM1
    go_wp2
    exact ⟨rfl, ⟨g, rfl, HB.out⟩, HM1.out⟩
  · intro t _ HX2 w HMw HM1
    obtain rfl : r = .ok 2 := HX2.out.symm
    clear HX HX2 HW c0 c5
    go_wp2_with fail
    go_ret
    exact ⟨rfl, HM1.out⟩
set_option maxRecDepth 100000 in
set_option maxHeartbeats 1000000 in
theorem exprk_len {L : List Fn} {N : Nm} (a : Int) {x : Ex} (hx : ExK L N x) : ExK L N (.len a x) := by
  intro b m v W r hC hv hr
  have HX : Hid (bindK (wantK L N x 2) (fun _ => .ok 1) = r) := Lib.hid (by rw [← hr]; simp only [exprK, wantK, bindK_assoc])
  simp only [ExAt] at hv
  obtain ⟨xv, ⟨g, rfl, _, hg⟩, hxv⟩ := hv
  have HW := Lib.hid (chk_sub hx hC hxv 2 W (Mods.refl _ _))
  have HM := Lib.hid (Mods.refl None W)
  have c0 : W.cell? ⟨g, 0, none⟩ = some (.int .i64 7) := hg.cell rfl
  have c5 : W.cell? ⟨g, 5, none⟩ = some xv := hg.cell rfl
  obtain ⟨xg, rfl⟩ := hxv.ptr
  clear hC hg hr hxv hx
  go_enter Tryz.func100, Tryz.ntmps100
  go_wp2_with fail
  go_at_call 101
  refine kbind_of HM HX HW.out ?_ ?_
  · rintro n a rfl g w HB HM1
    go_wp2
    exact ⟨rfl, ⟨g, rfl, HB.out⟩, HM1.out⟩
  · intro t _ HX2 w HMw HM1
    obtain rfl : r = .ok 1 := HX2.out.symm
    clear HX HX2 HW c0 c5
    go_wp2_with fail
    go_ret
    exact ⟨rfl, HM1.out⟩
set_option maxRecDepth 100000 in
set_option maxHeartbeats 1000000 in
theorem exprk_bin {L : List Fn} {N : Nm} (a : Int) (op : List UInt8) {x y : Ex} (hx : ExK L N x) (hy : ExK L N y) : ExK L N (.bin a op x y) := by
  intro b m v W r hC hv hr
  have HX : Hid (bindK (wantK L N x 1) (fun _ => bindK (wantK L N y 1) (fun _ => .ok 1)) = r) := Lib.hid (by rw [← hr]; simp only [exprK, wantK, bindK_assoc])
  simp only [ExAt] at hv
  obtain ⟨xv, yv, ⟨g, rfl, _, hg⟩, hxv, hyv⟩ := hv
  have HW := Lib.hid (chk_sub hx hC hxv 1 W (Mods.refl _ _))
  have HW2 := Lib.hid (chk_sub hy hC hyv 1)
  have HM := Lib.hid (Mods.refl None W)
  have c0 : W.cell? ⟨g, 0, none⟩ = some (.int .i64 3) := hg.cell rfl
  have c5 : W.cell? ⟨g, 5, none⟩ = some xv := hg.cell rfl
  have c6 : W.cell? ⟨g, 6, none⟩ = some yv := hg.cell rfl
  obtain ⟨xg, rfl⟩ := hxv.ptr
  obtain ⟨yg, rfl⟩ := hyv.ptr
  clear hC hg hr hxv hx hyv hy
  go_enter Tryz.func100, Tryz.ntmps100
  go_wp2_with fail
  go_at_call 101
  refine kbind_of HM HX HW.out ?_ ?_
  · rintro n a rfl g w HB HM1
    go_wp2
    exact ⟨rfl, ⟨g, rfl, HB.out⟩, HM1.out⟩
  · intro t _ HX2 w HMw HM1
    have HWW := Lib.hid (HW2.out w HM1.out)
    have c6w : w.cell? ⟨g, 6, none⟩ = some (.pointer (some ⟨yg, 0, none⟩)) := HM1.out.cellOf c6 (fun f => f)
    clear HX HW c0 c5 c6 HW2
    go_wp2_with fail
    go_at_call 101
    refine kbind_of HM1 HX2 HWW.out ?_ ?_
    · rintro n a rfl g w HB HM1
      go_wp2
      exact ⟨rfl, ⟨g, rfl, HB.out⟩, HM1.out⟩
    · intro t _ HX3 w2 HMw2 HM2
      obtain rfl : r = .ok 1 := HX3.out.symm
      clear HX2 HX3 HWW c6w
      go_wp2_with fail
      go_ret
      exact ⟨rfl, HM2.out⟩
set_option maxRecDepth 100000 in
set_option maxHeartbeats 1000000 in
theorem exprk_item {L : List Fn} {N : Nm} (a : Int) {x y : Ex} (hx : ExK L N x) (hy : ExK L N y) : ExK L N (.item a x y) := by
  intro b m v W r hC hv hr
  have HX : Hid (bindK (wantK L N x 2) (fun _ => bindK (wantK L N y 1) (fun _ => .ok 1)) = r) := Lib.hid (by rw [← hr]; simp only [exprK, wantK, bindK_assoc])
  simp only [ExAt] at hv
  obtain ⟨xv, yv, ⟨g, rfl, _, hg⟩, hxv, hyv⟩ := hv
  have HW := Lib.hid (chk_sub hx hC hxv 2 W (Mods.refl _ _))
  have HW2 := Lib.hid (chk_sub hy hC hyv 1)
  have HM := Lib.hid (Mods.refl None W)
  have c0 : W.cell? ⟨g, 0, none⟩ = some (.int .i64 8) := hg.cell rfl
  have c5 : W.cell? ⟨g, 5, none⟩ = some xv := hg.cell rfl
  have c6 : W.cell? ⟨g, 6, none⟩ = some yv := hg.cell rfl
  obtain ⟨xg, rfl⟩ := hxv.ptr
  obtain ⟨yg, rfl⟩ := hyv.ptr
  clear hC hg hr hxv hx hyv hy
  go_enter Tryz.func100, Tryz.ntmps100
  go_wp2_with fail
  go_at_call 101
  refine kbind_of HM HX HW.out ?_ ?_
  · rintro n a rfl g w HB HM1
    go_wp2
    exact ⟨rfl, ⟨g, rfl, HB.out⟩, HM1.out⟩
  · intro t _ HX2 w HMw HM1
    have HWW := Lib.hid (HW2.out w HM1.out)
    have c6w : w.cell? ⟨g, 6, none⟩ = some (.pointer (some ⟨yg, 0, none⟩)) := HM1.out.cellOf c6 (fun f => f)
    clear HX HW c0 c5 c6 HW2
    go_wp2_with fail
    go_at_call 101
    refine kbind_of HM1 HX2 HWW.out ?_ ?_
    · rintro n a rfl g w HB HM1
      go_wp2
      exact ⟨rfl, ⟨g, rfl, HB.out⟩, HM1.out⟩
    · intro t _ HX3 w2 HMw2 HM2
      obtain rfl : r = .ok 1 := HX3.out.symm
      clear HX2 HX3 HWW c6w
      go_wp2_with fail
      go_ret
      exact ⟨rfl, HM2.out⟩
set_option maxRecDepth 100000 in
set_option maxHeartbeats 1000000 in
theorem exprk_var (L : List Fn) (N : Nm) (a : Int) (s : List UInt8) : ExK L N (.var a s) := by
  intro b m v W r hC hv hr
  simp only [exprK] at hr
  simp only [ExAt] at hv
  obtain ⟨g, rfl, _, hg⟩ := hv
  have HF := Lib.hid (find_any b L N m s W hC)
  have c0 : W.cell? ⟨g, 0, none⟩ = some (.int .i64 2) := hg.cell rfl
  have c1 : W.cell? ⟨g, 1, none⟩ = some (.int .i64 a) := hg.cell rfl
  have c3 : W.cell? ⟨g, 3, none⟩ = some (str s) := hg.cell rfl
  obtain ⟨q, hq⟩ : ∃ q, q = findN N s := ⟨_, rfl⟩
  rw [← hq] at hr HF
  clear hC hg hq
  by_cases h0 : q = 0
  · rw [if_pos h0] at hr
    subst hr h0
    unfold KGot str at *
    go_enter Tryz.func100, Tryz.ntmps100
    go_wp2_with fail
    go_at_call 66
    refine HF.out.mono ?_
    rintro e w2 ⟨rfl, hm2⟩
    have c1w := hm2.cellOf c1 (fun f => f)
    go_wp2_with fail
    go_at_call 39
    refine (cfail_any 7 a w2).mono ?_
    rintro e w3 ⟨⟨g, rfl, hb3⟩, hm3⟩
    go_wp2
    exact ⟨rfl, ⟨g, rfl, hb3⟩, hm2.trans hm3⟩
  · rw [if_neg h0] at hr
    subst hr
    have hq0 : (q == 0) = false := by simpa using h0
    unfold KGot str at *
    go_enter Tryz.func100, Tryz.ntmps100
    go_wp2_with fail
    go_at_call 66
    refine HF.out.mono ?_
    rintro e w2 ⟨rfl, hm2⟩
    go_wp2_with fail
    go_ret
    exact ⟨rfl, hm2⟩
set_option maxRecDepth 100000 in
set_option maxHeartbeats 1000000 in
theorem exprk_call {L : List Fn} {N : Nm} (a : Int) (f : List UInt8) {args : List Ex} (hA : ∀ e ∈ args, ExK L N e) : ExK L N (.call a f args) := by
  intro b m v W r hC hv hr
  have HX : Hid (bindK (callK L N a f args) (fun _ => .ok 1) = r) := Lib.hid (by
    rw [← hr]
    simp only [exprK]
    unfold callK
    cases fnOf L f with
    | none => rfl
    | some g =>
      simp only
      split <;> rfl)
  have HW := Lib.hid (call_of a f hA b m v W hC hv)
  have HM := Lib.hid (Mods.refl None W)
  simp only [ExAt] at hv
  obtain ⟨xv, vs, ⟨g, rfl, _, hg⟩, _⟩ := hv
  have c0 : W.cell? ⟨g, 0, none⟩ = some (.int .i64 5) := hg.cell rfl
  clear hC hg hr hA
  go_enter Tryz.func100, Tryz.ntmps100
  go_wp2_with fail
  go_at_call 118
  refine kbind_of HM HX HW.out ?_ ?_
  · rintro n a rfl g w HB HM1
    go_wp2
    exact ⟨rfl, ⟨g, rfl, HB.out⟩, HM1.out⟩
  · intro t _ HX2 w HMw HM1
    obtain rfl : r = .ok 1 := HX2.out.symm
    clear HX HX2 HW c0
    go_wp2_with fail
    go_ret
    exact ⟨rfl, HM1.out⟩
mutual
theorem exprk_all (L : List Fn) (N : Nm) : (e : Ex) → ExK L N e
  | .num a n => exprk_num L N a n
  | .var a s => exprk_var L N a s
  | .bin a op l r => exprk_bin a op (exprk_all L N l) (exprk_all L N r)
  | .un a op x => exprk_un a op (exprk_all L N x)
  | .call a f args => exprk_call a f (exprsk_all L N args)
  | .new a x => exprk_new a (exprk_all L N x)
  | .len a x => exprk_len a (exprk_all L N x)
  | .item a x i => exprk_item a (exprk_all L N x) (exprk_all L N i)
  | .input a => exprk_input L N a
theorem exprsk_all (L : List Fn) (N : Nm) : (l : List Ex) → ∀ e ∈ l, ExK L N e
  | [] => fun e h => nomatch h
  | a :: r => fun e h => (List.mem_cons.1 h).elim (fun h1 => h1 ▸ exprk_all L N a) (exprsk_all L N r e)
end
theorem want_any (L : List Fn) (N : Nm) (e : Ex) {b m : Nat} {v : Value} {W : World} (hC : Chk W b L N m) (hv : ExAt W (· = b) e v) (k : Int) (w : World) (hm : Mods None W w) :
    Calls Tryz.prog 101 #[.pointer (some ⟨b, 0, none⟩), v, .int .i64 k] w (KGot w (fun (_ : Unit) => .tuple #[]) (wantK L N e k)) := chk_sub (exprk_all L N e) hC hv k w hm
end Go.Proofs.YtnicpmoanjddbaaGreatDoor.TreeP
