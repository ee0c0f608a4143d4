/- The law WordForms walked. Conditions: the table of forms, and errors.errorType, lie as the program lays them. -/
import Derived.Test.YtgeajgdddjjjnaaDoorRefDec
import Derived.Test.YtgeajgdddjjjnaaDoorErrTell
import Derived.Test.YtgeajgdddjjjnaaDoorMachStep
namespace Go.Proofs.YtgeajgdddjjjnaaDoor.RefP
open Go.RowKit Go.Proofs.YtgeajgdddjjjnaaDoor.Wo Go.Proofs.YtgeajgdddjjjnaaDoor.WordP Go.Proofs.YtgeajgdddjjjnaaDoor.ErrP
set_option linter.unusedVariables false
set_option linter.unusedSimpArgs false
/-- An error of the program's, and its number by the reference, are one. -/
def BareYes (err : Value) (e : Int) : Prop := ∀ W, ErrLaid W → Calls Tryd.prog 25 #[err, .int .i64 e] W fun e W' => e = .returned (.bool true) ∧ Mods None W W'
theorem bare_yes_nil : BareYes .nilIface 0 := fun W hE => (bare_nil 0 W).mono fun e W' ⟨he, hm⟩ => ⟨he, hm⟩
theorem bare_yes_errno (n : Int) : BareYes (.iface 54 (.int .i64 n)) n := fun W hE => (bare_errno n n W hE).mono fun e W' ⟨he, hm⟩ => ⟨by rw [he]; simp, hm⟩
/-- Both encode alike. -/
def EncAlike (x : Ins) (v ev : Int) (err : Value) : Prop :=
  (∀ W, Calls Tryd.prog 24 #[x.val] W fun e W' => e = .returned (.tuple #[.int .u32 v, .int .i64 ev]) ∧ Mods None W W') ∧
  (∀ W, Forms W → Calls Tryd.prog 11 #[x.val] W fun e W' => e = .returned (.tuple #[.int .u32 v, err]) ∧ Mods None W W') ∧ BareYes err ev
theorem enc_alike (x : Ins) : ∃ v ev err, EncAlike x v ev err := by
  cases hr : x.right
  · exact ⟨0, 1, _, fun W => enc_not x W hr, fun W hF => (encode_no x W hF hr).mono fun e W' ⟨he, hg⟩ => ⟨he, Mods.of_grown hg⟩, bare_yes_errno 1⟩
  · exact ⟨x.word, 0, _, fun W => enc_ref x W hr, fun W hF => (encode_yes x W hF hr).mono fun e W' ⟨he, hg⟩ => ⟨he, Mods.of_grown hg⟩, bare_yes_nil⟩
def DecAlike (w : Int) (z : Ins) (ev : Int) (err : Value) : Prop :=
  (∀ W, Calls Tryd.prog 27 #[.int .u32 w] W fun e W' => e = .returned (.tuple #[z.val, .int .i64 ev]) ∧ Mods None W W') ∧
  (∀ W, Forms W → Calls Tryd.prog 10 #[.int .u32 w] W fun e W' => e = .returned (.tuple #[z.val, err]) ∧ Mods None W W') ∧ BareYes err ev
theorem dec_alike (w : Int) (hw : 0 ≤ w ∧ w < 4294967296) : ∃ z ev err, DecAlike w z ev err := by
  cases hd : dec w with
  | none => exact ⟨⟨0, 0, 0, 0, 0⟩, 3, _, fun W => (decode_ref w W hw).mono fun e W' ⟨he, hm⟩ => ⟨by rw [he, refVal_none hd]; rfl, hm⟩, fun W hF => (decode_walk w W hw hF).mono fun e W' ⟨he, hg⟩ => ⟨by rw [he, decVal_none hd]; rfl, Mods.of_grown hg⟩, bare_yes_errno 3⟩
  | some x => exact ⟨x, 0, _, fun W => (decode_ref w W hw).mono fun e W' ⟨he, hm⟩ => ⟨by rw [he, refVal_some hd], hm⟩, fun W hF => (decode_walk w W hw hF).mono fun e W' ⟨he, hg⟩ => ⟨by rw [he, decVal_some hd], Mods.of_grown hg⟩, bare_yes_nil⟩
theorem forms_mods {S : Nat → Prop} {W W' : World} (hF : Forms W) (h : Mods S W W') (hn : ¬ S 0) : Forms W' := fun op h1 h2 =>
  ⟨h.cellOf (hF op h1 h2).c0 hn, h.cellOf (hF op h1 h2).c1 hn, h.cellOf (hF op h1 h2).c2 hn, h.cellOf (hF op h1 h2).c3 hn⟩
theorem right_prog (x : Ins) (W : World) (hF : Forms W) : Calls Tryd.prog 12 #[x.val] W fun e w' => e = .returned (.bool x.right) ∧ Mods None W w' :=
  (right_ins x W hF).mono fun e w' ⟨he, hw⟩ => ⟨he, by rw [hw]; exact (Mods.refl _ _).alloc _⟩
set_option maxRecDepth 100000 in
set_option maxHeartbeats 1000000 in
theorem forms_walk (x : Ins) (w : Int) (W : World) (hw : 0 ≤ w ∧ w < 4294967296) (hF : Forms W) (hE : ErrLaid W) :
    Calls Tryd.prog 7 #[x.val, .int .u32 w] W fun e W' => e = .returned (.bool true) ∧ Mods None W W' := by
  obtain ⟨v, ev, err, a1, a2, a3⟩ := enc_alike x
  obtain ⟨z, ez, erz, b1, b2, b3⟩ := dec_alike w hw
  have A1 := Lib.hid a1
  have A2 := Lib.hid a2
  have A3 := Lib.hid a3
  have B1 := Lib.hid b1
  have B2 := Lib.hid b2
  have B3 := Lib.hid b3
  have HF := Lib.hid hF
  have HE := Lib.hid hE
  have R1 : Hid (∀ W, Forms W → Calls Tryd.prog 12 #[x.val] W fun e w' => e = .returned (.bool x.right) ∧ Mods None W w') := Lib.hid (right_prog x)
  have R2 := Lib.hid (right_ref x)
  obtain ⟨r, hr⟩ : ∃ r, r = x.right := ⟨_, rfl⟩
  rw [← hr] at R1 R2
  obtain ⟨p, rd, ra, rb, n⟩ := x
  obtain ⟨zp, zrd, zra, zrb, zn⟩ := z
  clear a1 a2 a3 b1 b2 b3 hF hE hr hw
  simp only [Ins.val] at *
  obtain ⟨W1, hW1⟩ : ∃ W1, W1 = W.alloc (.cells (instCells p rd ra rb n) 23) := ⟨_, rfl⟩
  have HM1 : Hid (Mods None W W1) := Lib.hid (by rw [hW1]; exact (Mods.refl _ _).alloc _)
  have F1 : Hid (Blk W1 W.heap.size [.int .i64 p, .int .i64 rd, .int .i64 ra, .int .i64 rb, .int .i64 n] 23) := Lib.hid (by rw [hW1]; exact Blk.new W _ _)
  have c0 := F1.out.cell (i := 0) rfl
  have c1 := F1.out.cell (i := 1) rfl
  have c2 := F1.out.cell (i := 2) rfl
  have c3 := F1.out.cell (i := 3) rfl
  have c4 := F1.out.cell (i := 4) rfl
  go_enter Tryd.func7, Tryd.ntmps7
  go_wp2_with fail
  rw [← hW1]
  clear hW1
  refine (A1.out _).mono ?_
  rintro e w2 ⟨rfl, hm2⟩
  have HM2 := Lib.hid (HM1.out.trans hm2)
  have F2 := Lib.hid (F1.out.mods hm2 (fun f => f))
  clear hm2 c0 c1 c2 c3 c4
  have c0 := F2.out.cell (i := 0) rfl
  have c1 := F2.out.cell (i := 1) rfl
  have c2 := F2.out.cell (i := 2) rfl
  have c3 := F2.out.cell (i := 3) rfl
  have c4 := F2.out.cell (i := 4) rfl
  go_wp2_with fail
  refine (A2.out _ (forms_mods HF.out HM2.out (fun f => f))).mono ?_
  rintro e w3 ⟨rfl, hm3⟩
  have HM3 := Lib.hid (HM2.out.trans hm3)
  have F3 := Lib.hid (F2.out.mods hm3 (fun f => f))
  clear hm3 c0 c1 c2 c3 c4
  have c0 := F3.out.cell (i := 0) rfl
  have c1 := F3.out.cell (i := 1) rfl
  have c2 := F3.out.cell (i := 2) rfl
  have c3 := F3.out.cell (i := 3) rfl
  have c4 := F3.out.cell (i := 4) rfl
  go_wp2_with fail
  have hm3 : Hid (Mods None W w3) := HM3
  go_region_held3 (fun w' => Hid (Mods None W w') ∧ w'.cell? ⟨W.heap.size, 0, none⟩ = some (.int .i64 p) ∧ w'.cell? ⟨W.heap.size, 1, none⟩ = some (.int .i64 rd) ∧ w'.cell? ⟨W.heap.size, 2, none⟩ = some (.int .i64 ra) ∧ w'.cell? ⟨W.heap.size, 3, none⟩ = some (.int .i64 rb) ∧ w'.cell? ⟨W.heap.size, 4, none⟩ = some (.int .i64 n))
    (first
      | exact ⟨Lib.hid HM3.out.drew, c0, c1, c2, c3, c4⟩
      | (go_split_ands; exact ⟨Lib.hid (Mods.trans (Hid.out ‹_›) hm), hm.cellOf ‹_› (fun f => f), hm.cellOf ‹_› (fun f => f), hm.cellOf ‹_› (fun f => f), hm.cellOf ‹_› (fun f => f), hm.cellOf ‹_› (fun f => f)⟩))
    ((first
      | (go_at_call 25; go_split_ands; refine (A3.out _ ((Hid.out ‹Hid (Mods None W _)›).cellOf HE.out (fun f => f))).mono ?_; rintro e w' ⟨rfl, hm⟩)
      | (go_at_call 12; go_split_ands; refine (R1.out _ (forms_mods HF.out (Hid.out ‹Hid (Mods None W _)›) (fun f => f))).mono ?_; rintro e w' ⟨rfl, hm⟩)
      | (go_at_call 26; go_split_ands; refine (R2.out _).mono ?_; rintro e w' ⟨rfl, hm⟩)))
  all_goals
    go_split_ands
    have HM4 : Hid (Mods None W w') := ‹Hid (Mods None W w')›
    clear c0 c1 c2 c3 c4
    go_wp2_with fail
    refine (B1.out _).mono ?_
    rintro e w5 ⟨rfl, hm5⟩
    obtain ⟨W6, hW6⟩ : ∃ W6, W6 = w5.alloc (.cells #[.int .i64 zp, .int .i64 zrd, .int .i64 zra, .int .i64 zrb, .int .i64 zn] 23) := ⟨_, rfl⟩
    have HM6 : Hid (Mods None W W6) := Lib.hid (by rw [hW6]; exact (HM4.out.trans hm5).alloc _)
    have F6 : Hid (Blk W6 w5.heap.size [.int .i64 zp, .int .i64 zrd, .int .i64 zra, .int .i64 zrb, .int .i64 zn] 23) := Lib.hid (by rw [hW6]; exact Blk.new w5 _ _)
    clear hm5
    go_wp2_with fail
    rw [← hW6]
    clear hW6
    refine (B2.out _ (forms_mods HF.out HM6.out (fun f => f))).mono ?_
    rintro e w7 ⟨rfl, hm7⟩
    obtain ⟨W8, hW8⟩ : ∃ W8, W8 = w7.alloc (.cells #[.int .i64 zp, .int .i64 zrd, .int .i64 zra, .int .i64 zrb, .int .i64 zn] 23) := ⟨_, rfl⟩
    have HM8 : Hid (Mods None W W8) := Lib.hid (by rw [hW8]; exact (HM6.out.trans hm7).alloc _)
    have F8 : Hid (Blk W8 w7.heap.size [.int .i64 zp, .int .i64 zrd, .int .i64 zra, .int .i64 zrb, .int .i64 zn] 23) := Lib.hid (by rw [hW8]; exact Blk.new w7 _ _)
    have F9 : Hid (Blk W8 w5.heap.size [.int .i64 zp, .int .i64 zrd, .int .i64 zra, .int .i64 zrb, .int .i64 zn] 23) := Lib.hid (by rw [hW8]; exact (F6.out.mods hm7 (fun f => f)).alloc _)
    clear hm7
    go_wp2_with fail
    rw [← hW8]
    clear hW8
    refine (B3.out _ (HM8.out.cellOf HE.out (fun f => f))).mono ?_
    rintro e w9 ⟨rfl, hm9⟩
    have F10 := F8.out.mods hm9 (fun f => f)
    have F11 := F9.out.mods hm9 (fun f => f)
    have c0 := F10.cell (i := 0) rfl
    have c1 := F10.cell (i := 1) rfl
    have c2 := F10.cell (i := 2) rfl
    have c3 := F10.cell (i := 3) rfl
    have c4 := F10.cell (i := 4) rfl
    have d0 := F11.cell (i := 0) rfl
    have d1 := F11.cell (i := 1) rfl
    have d2 := F11.cell (i := 2) rfl
    have d3 := F11.cell (i := 3) rfl
    have d4 := F11.cell (i := 4) rfl
    have HM9 := Lib.hid (HM8.out.trans hm9)
    clear F10 F11 hm9
    go_wp2_with fail
    go_ret
    exact ⟨rfl, HM9.out⟩
end Go.Proofs.YtgeajgdddjjjnaaDoor.RefP
