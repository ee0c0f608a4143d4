/- A fact of the keep statements: a machine that tells 5 is driven so. Conditions: the table of forms lies as the program lays it. -/
import Derived.Test.YtgeajgdddjjjnaaDoorMachNew
import Derived.Test.YtgeajgdddjjjnaaDoorMachRun
import Derived.Test.YtgeajgdddjjjnaaDoorKeepLow
import Derived.Deep.AppendLies
namespace Go.Proofs.YtgeajgdddjjjnaaDoor.MachP
open Go.RowKit Go.Proofs.YtgeajgdddjjjnaaDoor.Wo Go.Proofs.YtgeajgdddjjjnaaDoor.WordP
set_option linter.unusedVariables false
set_option linter.unusedSimpArgs false

def drivenIns : List Ins := [⟨14, 10, 0, 0, 5⟩, ⟨14, 17, 0, 0, 1⟩, ⟨31, 0, 0, 0, 0⟩, ⟨14, 10, 0, 0, 1⟩, ⟨14, 17, 0, 0, 3⟩, ⟨31, 0, 0, 0, 0⟩]
def drivenWords : List Int := [5244179, 1050771, 115, 1049875, 3147923, 115]
theorem driven_words : drivenIns.map Ins.word = drivenWords ∧ drivenIns.all Ins.right = true := by decide +kernel
theorem driven_run : ((Mac.new drivenWords 64 []).run 100).endWay = 1 ∧ ((Mac.new drivenWords 64 []).run 100).out = [5] ∧ ((Mac.new drivenWords 64 []).run 100).pc = 20 := by decide +kernel
theorem Tryd.info24 : (Tryd.prog.info? 24).map (fun i => (i.zero, i.size, i.bytes)) = some (some (.int .u32 0), 1, 4) := by kernel_rfl
def drivenCells : List Value := [.int .i64 14, .int .i64 10, .int .i64 0, .int .i64 0, .int .i64 5, .int .i64 14, .int .i64 17, .int .i64 0, .int .i64 0, .int .i64 1, .int .i64 31, .int .i64 0, .int .i64 0, .int .i64 0, .int .i64 0, .int .i64 14, .int .i64 10, .int .i64 0, .int .i64 0, .int .i64 1, .int .i64 14, .int .i64 17, .int .i64 0, .int .i64 0, .int .i64 3, .int .i64 31, .int .i64 0, .int .i64 0, .int .i64 0, .int .i64 0]
theorem words_own {w : World} {B : Nat} {v : Value} {l : List Int} (h : w.ownsRow B 24 1 v l.length (l.map (.int .u32))) (hl : ∀ x ∈ l, 0 ≤ x ∧ x < 4294967296) : WordsAt w v l := by
  obtain ⟨h1, h2⟩ := h
  rcases h2 with ⟨hv, h0⟩ | ⟨g, cap, cur, hv, hg, hh, hn, hc, hsz, ht⟩
  · refine ⟨_, _, _, hv, h0.symm, Nat.le_refl _, by decide, fun i x hx => ?_⟩
    rw [List.length_eq_zero_iff.1 h0] at hx
    simp at hx
  · refine ⟨_, _, _, hv, rfl, hn, hc, fun i x hx => ⟨hl x (List.mem_of_getElem? hx), g, 0, rfl, ?_⟩⟩
    have h3 : (cur.toList.take (l.length * 1))[i]? = some (Value.int .u32 x) := by rw [ht, List.getElem?_map, hx]; rfl
    have h4 : i < l.length := by
      rcases Nat.lt_or_ge i l.length with h | h
      · exact h
      · rw [List.getElem?_eq_none h] at hx; cases hx
    rw [List.getElem?_take_of_lt (by omega)] at h3
    simp only [World.cell?, hh, Nat.zero_add]
    simpa using h3
/-- One word more. -/
theorem driven_next {W1 wr w1 w2 : World} {H i : Nat} {wv v' : Value} {x : Int} {c : Array Value} {t : TypeId} (hs : W1.heap.size = H + 1) (hown : wr.ownsRow (H + 1) 24 1 wv i ((drivenWords.take i).map (.int .u32))) (hm : Mods None W1 wr) (hx : drivenWords[i]? = some x) (g : Mods None wr w1)
    (ho : w2.ownsRow (H + 1) 24 1 v' (i + 1) ((drivenWords.take i).map (.int .u32) ++ [.int .u32 x])) (hg : (w1.alloc (.cells c t)).grownBy w2 wv.ownBlock) :
    Hid (w2.ownsRow (H + 1) 24 1 v' (i + 1) ((drivenWords.take (i + 1)).map (.int .u32))) ∧ Hid (Mods None W1 w2) := by
  refine ⟨Lib.hid ?_, Lib.hid ?_⟩
  · rw [take_one hx, List.map_append]; exact ho
  · refine ((hm.trans g).alloc _).trans' (Mods.of_grownBy (S := fun k => wv.ownBlock = some k) hg (fun k hk _ => hk)) (fun k hk hlt => ?_)
    have := (hown.lt k hk).1
    omega
set_option maxRecDepth 100000 in
set_option maxHeartbeats 4000000 in
theorem driven_any (W : World) (hF : Forms W) : Calls Tryd.prog 14 #[] W fun e W' => e = .returned (.bool true) ∧ Mods None W W' := by
  obtain ⟨i0, hi, hz0, hz1, hz2⟩ := info_parts Tryd.info24
  obtain ⟨W1, hW1⟩ : ∃ W1, W1 = W.alloc (.cells drivenCells.toArray 23) := ⟨_, rfl⟩
  have HB : Hid (Blk W1 W.heap.size drivenCells 23) := Lib.hid (by rw [hW1]; exact Blk.new W _ _)
  have HM : Hid (Mods None W W1) := Lib.hid (by rw [hW1]; exact (Mods.refl _ _).alloc _)
  have HS : Hid (W1.heap.size = W.heap.size + 1) := Lib.hid (by rw [hW1]; simp)
  have HF := Lib.hid hF
  clear hF
  go_enter Tryd.func14, Tryd.ntmps14
  go_wp2_with fail
  rw [show W.alloc (Obj.cells #[Value.int IntKind.i64 14, Value.int IntKind.i64 10, Value.int IntKind.i64 0, Value.int IntKind.i64 0, Value.int IntKind.i64 5, Value.int IntKind.i64 14, Value.int IntKind.i64 17, Value.int IntKind.i64 0, Value.int IntKind.i64 0, Value.int IntKind.i64 1, Value.int IntKind.i64 31, Value.int IntKind.i64 0, Value.int IntKind.i64 0, Value.int IntKind.i64 0, Value.int IntKind.i64 0, Value.int IntKind.i64 14, Value.int IntKind.i64 10, Value.int IntKind.i64 0, Value.int IntKind.i64 0, Value.int IntKind.i64 1, Value.int IntKind.i64 14, Value.int IntKind.i64 17, Value.int IntKind.i64 0, Value.int IntKind.i64 0, Value.int IntKind.i64 3, Value.int IntKind.i64 31, Value.int IntKind.i64 0, Value.int IntKind.i64 0, Value.int IntKind.i64 0, Value.int IntKind.i64 0] 23) = W1 from hW1.symm]
  clear hW1
  go_loopw [1, 17] (fun wv iv wr => ∃ i : Nat, i ≤ 6 ∧ iv = .int .i64 i ∧ Hid (wr.ownsRow (W.heap.size + 1) 24 1 wv i ((drivenWords.take i).map (.int .u32))) ∧ Hid (Mods None W1 wr)) (fun _ v _ => (6 - intOf v).toNat)
  case atStart => exact ⟨0, by omega, rfl, Lib.hid (World.ownsRow_nil _ _ _ _), Lib.hid (Mods.refl _ _)⟩
  case round =>
    obtain ⟨i, hi6, rfl, hown, hm⟩ := hrel
    have hcases : i = 0 ∨ i = 1 ∨ i = 2 ∨ i = 3 ∨ i = 4 ∨ i = 5 ∨ i = 6 := by omega
    have hblk := HB.out.mods hm.out (fun f => f)
    have HBL := Lib.hid hblk
    clear hblk
    rcases hcases with rfl | rfl | rfl | rfl | rfl | rfl | rfl
    · have c0 : wr.cell? ⟨W.heap.size, 0, none⟩ = some (.int .i64 14) := HBL.out.cell rfl
      have c1 : wr.cell? ⟨W.heap.size, 1, none⟩ = some (.int .i64 10) := HBL.out.cell rfl
      have c2 : wr.cell? ⟨W.heap.size, 2, none⟩ = some (.int .i64 0) := HBL.out.cell rfl
      have c3 : wr.cell? ⟨W.heap.size, 3, none⟩ = some (.int .i64 0) := HBL.out.cell rfl
      have c4 : wr.cell? ⟨W.heap.size, 4, none⟩ = some (.int .i64 5) := HBL.out.cell rfl
      have HO := hown
      clear hown
      go_wp2_with fail
      refine (encode_yes (Ins.mk 14 10 0 0 5) _ (forms_mods (forms_mods (forms_mods HF.out HM.out (fun f => f)) hm.out (fun f => f)) ((Mods.refl None wr).alloc _) (fun f => f)) (by decide +kernel)).mono ?_
      rintro e w1 ⟨rfl, g1⟩
      have hw : (Ins.mk 14 10 0 0 5).word = 5244179 := by decide +kernel
      rw [hw]
      clear hw
      have g2 : Hid (Mods None wr w1) := Lib.hid (((Mods.refl None wr).alloc _).trans (Mods.of_grown g1))
      clear g1 c0 c1 c2 c3 c4
      go_wp2_with (at_builtin; refine wpList_append_own _ rfl (.tmp 28) (.tmp 30) 40 rfl (W.heap.size + 1) 24 i0 (.int .u32 0) 1 4 Tryd.underlying40 hi hz0 hz1 hz2 rfl (by decide) u1 0 ((drivenWords.take 0).map (.int .u32)) rfl ((g2.out.ownsRow HO.out (fun _ _ f => f)).alloc _) ⟨w1.heap.size, 0, none⟩ 1 1 [.int .u32 5244179] rfl rfl ?c01 ?c02 ?c03 ?c04 ?c05 ?_)
      case c01 => exact World.news_of_block (cs := #[.int .u32 5244179]) (heap_alloc_new w1 _)
      case c02 => intro u hu; simp only [List.mem_singleton] at hu; subst hu; rfl
      case c03 => decide
      case c04 => decide
      case c05 => have h1 := g2.out.size; have h2 := hm.out.size; have h3 := HS.out; simp; omega
      intro v' w2 ho hg _
      obtain ⟨n1, n2⟩ := driven_next (H := W.heap.size) (i := 0) (x := 5244179) HS.out HO.out hm.out rfl g2.out ho hg
      clear ho hg
      go_wp2
      go_roundw
      case rel => exact ⟨1, by omega, rfl, n1, n2⟩
      case measure => simp [intOf]
    · have c0 : wr.cell? ⟨W.heap.size, 5, none⟩ = some (.int .i64 14) := HBL.out.cell rfl
      have c1 : wr.cell? ⟨W.heap.size, 6, none⟩ = some (.int .i64 17) := HBL.out.cell rfl
      have c2 : wr.cell? ⟨W.heap.size, 7, none⟩ = some (.int .i64 0) := HBL.out.cell rfl
      have c3 : wr.cell? ⟨W.heap.size, 8, none⟩ = some (.int .i64 0) := HBL.out.cell rfl
      have c4 : wr.cell? ⟨W.heap.size, 9, none⟩ = some (.int .i64 1) := HBL.out.cell rfl
      have HO := hown
      clear hown
      go_wp2_with fail
      refine (encode_yes (Ins.mk 14 17 0 0 1) _ (forms_mods (forms_mods (forms_mods HF.out HM.out (fun f => f)) hm.out (fun f => f)) ((Mods.refl None wr).alloc _) (fun f => f)) (by decide +kernel)).mono ?_
      rintro e w1 ⟨rfl, g1⟩
      have hw : (Ins.mk 14 17 0 0 1).word = 1050771 := by decide +kernel
      rw [hw]
      clear hw
      have g2 : Hid (Mods None wr w1) := Lib.hid (((Mods.refl None wr).alloc _).trans (Mods.of_grown g1))
      clear g1 c0 c1 c2 c3 c4
      go_wp2_with (at_builtin; refine wpList_append_own _ rfl (.tmp 28) (.tmp 30) 40 rfl (W.heap.size + 1) 24 i0 (.int .u32 0) 1 4 Tryd.underlying40 hi hz0 hz1 hz2 rfl (by decide) u1 1 ((drivenWords.take 1).map (.int .u32)) rfl ((g2.out.ownsRow HO.out (fun _ _ f => f)).alloc _) ⟨w1.heap.size, 0, none⟩ 1 1 [.int .u32 1050771] rfl rfl ?c11 ?c12 ?c13 ?c14 ?c15 ?_)
      case c11 => exact World.news_of_block (cs := #[.int .u32 1050771]) (heap_alloc_new w1 _)
      case c12 => intro u hu; simp only [List.mem_singleton] at hu; subst hu; rfl
      case c13 => decide
      case c14 => decide
      case c15 => have h1 := g2.out.size; have h2 := hm.out.size; have h3 := HS.out; simp; omega
      intro v' w2 ho hg _
      obtain ⟨n1, n2⟩ := driven_next (H := W.heap.size) (i := 1) (x := 1050771) HS.out HO.out hm.out rfl g2.out ho hg
      clear ho hg
      go_wp2
      go_roundw
      case rel => exact ⟨2, by omega, rfl, n1, n2⟩
      case measure => simp [intOf]
    · have c0 : wr.cell? ⟨W.heap.size, 10, none⟩ = some (.int .i64 31) := HBL.out.cell rfl
      have c1 : wr.cell? ⟨W.heap.size, 11, none⟩ = some (.int .i64 0) := HBL.out.cell rfl
      have c2 : wr.cell? ⟨W.heap.size, 12, none⟩ = some (.int .i64 0) := HBL.out.cell rfl
      have c3 : wr.cell? ⟨W.heap.size, 13, none⟩ = some (.int .i64 0) := HBL.out.cell rfl
      have c4 : wr.cell? ⟨W.heap.size, 14, none⟩ = some (.int .i64 0) := HBL.out.cell rfl
      have HO := hown
      clear hown
      go_wp2_with fail
      refine (encode_yes (Ins.mk 31 0 0 0 0) _ (forms_mods (forms_mods (forms_mods HF.out HM.out (fun f => f)) hm.out (fun f => f)) ((Mods.refl None wr).alloc _) (fun f => f)) (by decide +kernel)).mono ?_
      rintro e w1 ⟨rfl, g1⟩
      have hw : (Ins.mk 31 0 0 0 0).word = 115 := by decide +kernel
      rw [hw]
      clear hw
      have g2 : Hid (Mods None wr w1) := Lib.hid (((Mods.refl None wr).alloc _).trans (Mods.of_grown g1))
      clear g1 c0 c1 c2 c3 c4
      go_wp2_with (at_builtin; refine wpList_append_own _ rfl (.tmp 28) (.tmp 30) 40 rfl (W.heap.size + 1) 24 i0 (.int .u32 0) 1 4 Tryd.underlying40 hi hz0 hz1 hz2 rfl (by decide) u1 2 ((drivenWords.take 2).map (.int .u32)) rfl ((g2.out.ownsRow HO.out (fun _ _ f => f)).alloc _) ⟨w1.heap.size, 0, none⟩ 1 1 [.int .u32 115] rfl rfl ?c21 ?c22 ?c23 ?c24 ?c25 ?_)
      case c21 => exact World.news_of_block (cs := #[.int .u32 115]) (heap_alloc_new w1 _)
      case c22 => intro u hu; simp only [List.mem_singleton] at hu; subst hu; rfl
      case c23 => decide
      case c24 => decide
      case c25 => have h1 := g2.out.size; have h2 := hm.out.size; have h3 := HS.out; simp; omega
      intro v' w2 ho hg _
      obtain ⟨n1, n2⟩ := driven_next (H := W.heap.size) (i := 2) (x := 115) HS.out HO.out hm.out rfl g2.out ho hg
      clear ho hg
      go_wp2
      go_roundw
      case rel => exact ⟨3, by omega, rfl, n1, n2⟩
      case measure => simp [intOf]
    · have c0 : wr.cell? ⟨W.heap.size, 15, none⟩ = some (.int .i64 14) := HBL.out.cell rfl
      have c1 : wr.cell? ⟨W.heap.size, 16, none⟩ = some (.int .i64 10) := HBL.out.cell rfl
      have c2 : wr.cell? ⟨W.heap.size, 17, none⟩ = some (.int .i64 0) := HBL.out.cell rfl
      have c3 : wr.cell? ⟨W.heap.size, 18, none⟩ = some (.int .i64 0) := HBL.out.cell rfl
      have c4 : wr.cell? ⟨W.heap.size, 19, none⟩ = some (.int .i64 1) := HBL.out.cell rfl
      have HO := hown
      clear hown
      go_wp2_with fail
      refine (encode_yes (Ins.mk 14 10 0 0 1) _ (forms_mods (forms_mods (forms_mods HF.out HM.out (fun f => f)) hm.out (fun f => f)) ((Mods.refl None wr).alloc _) (fun f => f)) (by decide +kernel)).mono ?_
      rintro e w1 ⟨rfl, g1⟩
      have hw : (Ins.mk 14 10 0 0 1).word = 1049875 := by decide +kernel
      rw [hw]
      clear hw
      have g2 : Hid (Mods None wr w1) := Lib.hid (((Mods.refl None wr).alloc _).trans (Mods.of_grown g1))
      clear g1 c0 c1 c2 c3 c4
      go_wp2_with (at_builtin; refine wpList_append_own _ rfl (.tmp 28) (.tmp 30) 40 rfl (W.heap.size + 1) 24 i0 (.int .u32 0) 1 4 Tryd.underlying40 hi hz0 hz1 hz2 rfl (by decide) u1 3 ((drivenWords.take 3).map (.int .u32)) rfl ((g2.out.ownsRow HO.out (fun _ _ f => f)).alloc _) ⟨w1.heap.size, 0, none⟩ 1 1 [.int .u32 1049875] rfl rfl ?c31 ?c32 ?c33 ?c34 ?c35 ?_)
      case c31 => exact World.news_of_block (cs := #[.int .u32 1049875]) (heap_alloc_new w1 _)
      case c32 => intro u hu; simp only [List.mem_singleton] at hu; subst hu; rfl
      case c33 => decide
      case c34 => decide
      case c35 => have h1 := g2.out.size; have h2 := hm.out.size; have h3 := HS.out; simp; omega
      intro v' w2 ho hg _
      obtain ⟨n1, n2⟩ := driven_next (H := W.heap.size) (i := 3) (x := 1049875) HS.out HO.out hm.out rfl g2.out ho hg
      clear ho hg
      go_wp2
      go_roundw
      case rel => exact ⟨4, by omega, rfl, n1, n2⟩
      case measure => simp [intOf]
    · have c0 : wr.cell? ⟨W.heap.size, 20, none⟩ = some (.int .i64 14) := HBL.out.cell rfl
      have c1 : wr.cell? ⟨W.heap.size, 21, none⟩ = some (.int .i64 17) := HBL.out.cell rfl
      have c2 : wr.cell? ⟨W.heap.size, 22, none⟩ = some (.int .i64 0) := HBL.out.cell rfl
      have c3 : wr.cell? ⟨W.heap.size, 23, none⟩ = some (.int .i64 0) := HBL.out.cell rfl
      have c4 : wr.cell? ⟨W.heap.size, 24, none⟩ = some (.int .i64 3) := HBL.out.cell rfl
      have HO := hown
      clear hown
      go_wp2_with fail
      refine (encode_yes (Ins.mk 14 17 0 0 3) _ (forms_mods (forms_mods (forms_mods HF.out HM.out (fun f => f)) hm.out (fun f => f)) ((Mods.refl None wr).alloc _) (fun f => f)) (by decide +kernel)).mono ?_
      rintro e w1 ⟨rfl, g1⟩
      have hw : (Ins.mk 14 17 0 0 3).word = 3147923 := by decide +kernel
      rw [hw]
      clear hw
      have g2 : Hid (Mods None wr w1) := Lib.hid (((Mods.refl None wr).alloc _).trans (Mods.of_grown g1))
      clear g1 c0 c1 c2 c3 c4
      go_wp2_with (at_builtin; refine wpList_append_own _ rfl (.tmp 28) (.tmp 30) 40 rfl (W.heap.size + 1) 24 i0 (.int .u32 0) 1 4 Tryd.underlying40 hi hz0 hz1 hz2 rfl (by decide) u1 4 ((drivenWords.take 4).map (.int .u32)) rfl ((g2.out.ownsRow HO.out (fun _ _ f => f)).alloc _) ⟨w1.heap.size, 0, none⟩ 1 1 [.int .u32 3147923] rfl rfl ?c41 ?c42 ?c43 ?c44 ?c45 ?_)
      case c41 => exact World.news_of_block (cs := #[.int .u32 3147923]) (heap_alloc_new w1 _)
      case c42 => intro u hu; simp only [List.mem_singleton] at hu; subst hu; rfl
      case c43 => decide
      case c44 => decide
      case c45 => have h1 := g2.out.size; have h2 := hm.out.size; have h3 := HS.out; simp; omega
      intro v' w2 ho hg _
      obtain ⟨n1, n2⟩ := driven_next (H := W.heap.size) (i := 4) (x := 3147923) HS.out HO.out hm.out rfl g2.out ho hg
      clear ho hg
      go_wp2
      go_roundw
      case rel => exact ⟨5, by omega, rfl, n1, n2⟩
      case measure => simp [intOf]
    · have c0 : wr.cell? ⟨W.heap.size, 25, none⟩ = some (.int .i64 31) := HBL.out.cell rfl
      have c1 : wr.cell? ⟨W.heap.size, 26, none⟩ = some (.int .i64 0) := HBL.out.cell rfl
      have c2 : wr.cell? ⟨W.heap.size, 27, none⟩ = some (.int .i64 0) := HBL.out.cell rfl
      have c3 : wr.cell? ⟨W.heap.size, 28, none⟩ = some (.int .i64 0) := HBL.out.cell rfl
      have c4 : wr.cell? ⟨W.heap.size, 29, none⟩ = some (.int .i64 0) := HBL.out.cell rfl
      have HO := hown
      clear hown
      go_wp2_with fail
      refine (encode_yes (Ins.mk 31 0 0 0 0) _ (forms_mods (forms_mods (forms_mods HF.out HM.out (fun f => f)) hm.out (fun f => f)) ((Mods.refl None wr).alloc _) (fun f => f)) (by decide +kernel)).mono ?_
      rintro e w1 ⟨rfl, g1⟩
      have hw : (Ins.mk 31 0 0 0 0).word = 115 := by decide +kernel
      rw [hw]
      clear hw
      have g2 : Hid (Mods None wr w1) := Lib.hid (((Mods.refl None wr).alloc _).trans (Mods.of_grown g1))
      clear g1 c0 c1 c2 c3 c4
      go_wp2_with (at_builtin; refine wpList_append_own _ rfl (.tmp 28) (.tmp 30) 40 rfl (W.heap.size + 1) 24 i0 (.int .u32 0) 1 4 Tryd.underlying40 hi hz0 hz1 hz2 rfl (by decide) u1 5 ((drivenWords.take 5).map (.int .u32)) rfl ((g2.out.ownsRow HO.out (fun _ _ f => f)).alloc _) ⟨w1.heap.size, 0, none⟩ 1 1 [.int .u32 115] rfl rfl ?c51 ?c52 ?c53 ?c54 ?c55 ?_)
      case c51 => exact World.news_of_block (cs := #[.int .u32 115]) (heap_alloc_new w1 _)
      case c52 => intro u hu; simp only [List.mem_singleton] at hu; subst hu; rfl
      case c53 => decide
      case c54 => decide
      case c55 => have h1 := g2.out.size; have h2 := hm.out.size; have h3 := HS.out; simp; omega
      intro v' w2 ho hg _
      obtain ⟨n1, n2⟩ := driven_next (H := W.heap.size) (i := 5) (x := 115) HS.out HO.out hm.out rfl g2.out ho hg
      clear ho hg
      go_wp2
      go_roundw
      case rel => exact ⟨6, by omega, rfl, n1, n2⟩
      case measure => simp [intOf]
    · have HO := hown
      clear hown
      have hF2 := Lib.hid (forms_mods (forms_mods HF.out HM.out (fun f => f)) hm.out (fun f => f))
      have h0 : 0 < wr.heap.size := zero_lt (hF2.out 1 (by decide) (by decide)).c0
      go_wp2_with fail
      refine (new_made u1 (.slice none 0 0) drivenWords [] 64 _ (by decide) (by decide) (by decide) (words_own HO.out (by decide)) (by decide) ⟨_, _, _, rfl, rfl, Nat.le_refl _, by decide, fun i x hx => by simp at hx⟩ (by decide) (fun n c h => by simp at h; exact h.2.symm)).mono ?_
      rintro e w1 ⟨b, rfl, O, hmach, hO, hm1⟩
      have H1 := Lib.hid hmach
      have HOO := Lib.hid hO
      have HM1 := Lib.hid hm1
      clear hmach hO hm1
      go_wp2_with fail
      refine (run_any b O _ _ H1.out (forms_mods hF2.out HM1.out (fun f => f)) (fun f => by have := HOO.out 0 f; omega) 100 (by decide)).mono ?_
      rintro e w2 ⟨sv, rfl, hsv, O1, hm2, hO1, hmd, _⟩
      obtain ⟨d1, d2, d3⟩ := driven_run
      have e100 : (100 : Int).toNat = 100 := rfl
      rw [e100] at hsv hm2 ⊢
      rw [d1]
      obtain ⟨M, hM⟩ : ∃ M, M = (Mac.new drivenWords 64 []).run 100 := ⟨_, rfl⟩
      rw [← hM] at hsv hm2 d2 d3 ⊢
      rw [d2] at hsv
      obtain ⟨va, vm, vc, rfl⟩ := form_any hsv
      have HSV := Lib.hid (ints_own (l := [5]) hsv (by decide))
      have HM2 := Lib.hid hm2
      have HMD := Lib.hid hmd
      have HPC := Lib.hid d3
      have HALL : Hid (Mods None W w2) := Lib.hid (((HM.out.trans hm.out).trans HM1.out).trans' hmd (fun k hk hlt => by
        have h1 := HOO.out k hk
        have h2 := HM.out.size
        have h3 := hm.out.size
        omega))
      clear d1 d2 d3 hM hsv hm2 hO1 hmd e100
      go_wp2_with fail
      refine (equal_any (.slice va vm vc) _ [5] [5] _ (HSV.out.mods (((Mods.refl None w2).alloc _).alloc _) (fun _ _ f => f)) ⟨_, _, _, rfl, rfl, Nat.le_refl _, by decide, fun i x hx => ?_⟩).mono ?_
      · cases i with
        | zero =>
          obtain rfl : (5 : Int) = x := by simpa using hx
          refine ⟨_, 0, rfl, ?_⟩
          simp
        | succ i => simp at hx
      rintro e w3 ⟨rfl, hm3⟩
      have HM3 := Lib.hid hm3
      clear hm3
      go_wp2_with fail
      refine (pc_any b O1 M _ (HM2.out.mods ((((Mods.refl None w2).alloc _).alloc _).trans HM3.out) (fun _ _ f => f))).mono ?_
      rintro e w' ⟨rfl, rfl⟩
      rw [HPC.out]
      go_wp2
      go_ret
      exact ⟨rfl, ((HALL.out.alloc _).alloc _).trans HM3.out⟩
end Go.Proofs.YtgeajgdddjjjnaaDoor.MachP
