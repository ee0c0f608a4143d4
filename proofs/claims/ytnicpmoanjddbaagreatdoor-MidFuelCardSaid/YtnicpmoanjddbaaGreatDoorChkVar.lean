/- The checker's look at a new name. Conditions: its functions, names, and the statement lie. -/
import Derived.Test.YtnicpmoanjddbaaGreatDoorChkSt
namespace Go.Proofs.YtnicpmoanjddbaaGreatDoor.TreeP
open Go.RowKit Go.Proofs.YtnicpmoanjddbaaGreatDoor.Wo
set_option linter.unusedVariables false
set_option linter.unusedSimpArgs false
set_option maxRecDepth 100000 in
set_option maxHeartbeats 8000000 in
theorem stmtk_var {L : List Fn} (a : Int) (s : List UInt8) (v : Ex) (b : Nat) (N : Nm) (m : Nat) (xv : Value) (W : World) (r : CK (Nm × Nat)) (hC : Chk W b L N m) (hv : ExAt W (· = b) v xv) (hr : stmtK L N m (.var a s v) = r) :
    Calls Tryz.prog 68 #[.pointer (some ⟨b, 0, none⟩), .agg (cells7 1 a s nilP xv nilS nilS).toArray] W (AddTo W b L r) := by
  obtain ⟨xg, rfl⟩ := hv.ptr
  obtain ⟨W1, hW1⟩ : ∃ W1, W1 = W.alloc (.cells (cells7 1 a s nilP (.pointer (some ⟨xg, 0, none⟩)) nilS nilS).toArray 143) := ⟨_, rfl⟩
  have HMA : Hid (Mods None W W1) := Lib.hid (by rw [hW1]; exact (Mods.refl _ _).alloc _)
  have HB1 : Hid (Blk W1 W.heap.size (cells7 1 a s nilP (.pointer (some ⟨xg, 0, none⟩)) nilS nilS) 143) := Lib.hid (by rw [hW1]; exact Blk.new W _ _)
  have HMB : Hid (Mods (· = b) W W1) := Lib.hid (HMA.out.mono fun _ _ f => f.elim)
  have HC := Lib.hid (hC.mods HMA.out)
  have HX : Hid (bindK (exprK L N v) (fun t => addN N m (s, t) a) = r) := Lib.hid (by rw [← hr]; simp only [stmtK])
  have HE := Lib.hid (fun (w : World) (hm : Mods None W w) => exprk_all L N v b m _ w _ (hC.mods hm) (hv.mods (hm.mono fun _ _ f => f.elim)) rfl)
  have hbl : b < W1.heap.size := by obtain ⟨_, _, _, _, hb, _⟩ := HC.out; exact hb.lt
  clear hC hv hr
  have HD : Hid (Mods None W W1.drew) := Lib.hid HMA.out.drew
  have HB1D : Hid (∀ w, Mods None W1.drew w → Blk w W.heap.size (cells7 1 a s nilP (.pointer (some ⟨xg, 0, none⟩)) nilS nilS) 143) := Lib.hid (fun w hm => HB1.out.mods (((Mods.refl None W1).drew).trans hm) (fun f => f))
  have HE2 := Lib.hid (HE.out W1.drew HD.out)
  cases hx : exprK L N v with
  | error q =>
    obtain ⟨qn, qa⟩ := q
    rw [hx] at HX HE2
    obtain rfl : r = .error (qn, qa) := HX.out.symm
    have d2 : W1.cell? ⟨W.heap.size, 2, none⟩ = some (str s) := HB1.out.cell rfl
    have d4 : W1.cell? ⟨W.heap.size, 4, none⟩ = some (.pointer (some ⟨xg, 0, none⟩)) := HB1.out.cell rfl
    have d1 : W1.cell? ⟨W.heap.size, 1, none⟩ = some (.int .i64 a) := HB1.out.cell rfl
    clear hx HX HE
    unfold cells7 nilP nilS str AddTo at *
    go_enter Tryz.func68, Tryz.ntmps68
    go_wp2_with fail
    rw [← hW1]
    clear hW1
    go_region_with (first | (go_at_call 100; refine HE2.out.mono ?_; rintro e w3 ⟨⟨g3, rfl, hb3⟩, hm3⟩; refine no_way Tryz.prog w3 ⟨rfl, ⟨g3, rfl, hb3⟩, (HD.out.trans hm3).mono fun _ _ f => f.elim⟩ ?_))
    all_goals trivial
  | ok t =>
    rw [hx] at HX HE2
    have d2 : W1.cell? ⟨W.heap.size, 2, none⟩ = some (str s) := HB1.out.cell rfl
    have d4 : W1.cell? ⟨W.heap.size, 4, none⟩ = some (.pointer (some ⟨xg, 0, none⟩)) := HB1.out.cell rfl
    have d1 : W1.cell? ⟨W.heap.size, 1, none⟩ = some (.int .i64 a) := HB1.out.cell rfl
    have HXA : Hid (addN N m (s, t) a = r) := Lib.hid HX.out
    have HADD := Lib.hid (fun (w : World) (hm : Mods None W1.drew w) => (by
      have := add_any b L N m (s, t) a w (HC.out.mods (((Mods.refl None W1).drew).trans hm))
      rw [HXA.out] at this
      exact this : Calls Tryz.prog 40 #[.pointer (some ⟨b, 0, none⟩), .agg #[str s, .int .i64 t], .int .i64 a] w (AddTo w b L r)))
    clear hx HX HE HXA
    cases r with
    | error q =>
      obtain ⟨qn, qa⟩ := q
      unfold cells7 nilP nilS str AddTo at *
      go_enter Tryz.func68, Tryz.ntmps68
      go_wp2_with fail
      rw [← hW1]
      clear hW1
      go_region_with (first | (go_at_call 100; refine HE2.out.mono ?_; rintro e w3 ⟨rfl, hm3⟩; have e2 := (HB1D.out w3 hm3).cell (i := 2) rfl; have e4 := (HB1D.out w3 hm3).cell (i := 4) rfl; have e1 := (HB1D.out w3 hm3).cell (i := 1) rfl; have HM3 := Lib.hid hm3) | (go_at_call 40; refine (HADD.out _ HM3.out).mono ?_; rintro e w4 ⟨⟨g3, rfl, hb3⟩, hm4⟩; refine no_way Tryz.prog w4 ⟨rfl, ⟨g3, rfl, hb3⟩, ((HD.out.trans HM3.out).mono fun _ _ f => f.elim).trans hm4⟩ ?_))
      all_goals trivial
    | ok y =>
      unfold cells7 nilP nilS str AddTo at *
      go_enter Tryz.func68, Tryz.ntmps68
      go_wp2_with fail
      rw [← hW1]
      clear hW1
      go_region_with (first | (go_at_call 100; refine HE2.out.mono ?_; rintro e w3 ⟨rfl, hm3⟩; have e2 := (HB1D.out w3 hm3).cell (i := 2) rfl; have e4 := (HB1D.out w3 hm3).cell (i := 4) rfl; have e1 := (HB1D.out w3 hm3).cell (i := 1) rfl; have HM3 := Lib.hid hm3) | (go_at_call 40; refine (HADD.out _ HM3.out).mono ?_; rintro e w4 ⟨rfl, hk4, hm4⟩))
      all_goals
        have HK4 := Lib.hid hk4
        have HM4 := Lib.hid (((HD.out.trans HM3.out).mono fun _ _ f => f.elim).trans hm4)
        clear hk4 hm4
        go_wp2_with fail
        go_end0
        exact ⟨rfl, HK4.out, HM4.out⟩
end Go.Proofs.YtnicpmoanjddbaaGreatDoor.TreeP
