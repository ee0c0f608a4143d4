/- The reference's table of forms: a contract of ref.FormOf, of any op. No conditions. -/
import Derived.Test.YtodgkbcgdbhpeaaGreatDoorWordIns
import Derived.Test.YtodgkbcgdbhpeaaGreatDoorMods
namespace Go.Proofs.YtodgkbcgdbhpeaaGreatDoor.RefP
open Go.RowKit Go.Proofs.YtodgkbcgdbhpeaaGreatDoor.Wo Go.Proofs.YtodgkbcgdbhpeaaGreatDoor.WordP
set_option linter.unusedVariables false
set_option linter.unusedSimpArgs false
def opNames : List ByteArray := [⟨#[]⟩, ⟨#[97, 100, 100]⟩, ⟨#[115, 117, 98]⟩, ⟨#[109, 117, 108]⟩, ⟨#[100, 105, 118]⟩, ⟨#[114, 101, 109]⟩, ⟨#[97, 110, 100]⟩, ⟨#[111, 114]⟩, ⟨#[120, 111, 114]⟩, ⟨#[115, 108, 116]⟩, ⟨#[115, 108, 116, 117]⟩, ⟨#[115, 108, 108]⟩, ⟨#[115, 114, 108]⟩, ⟨#[115, 114, 97]⟩, ⟨#[97, 100, 100, 105]⟩, ⟨#[97, 110, 100, 105]⟩, ⟨#[111, 114, 105]⟩, ⟨#[120, 111, 114, 105]⟩, ⟨#[115, 108, 116, 105]⟩, ⟨#[115, 108, 108, 105]⟩, ⟨#[115, 114, 108, 105]⟩, ⟨#[115, 114, 97, 105]⟩, ⟨#[108, 100]⟩, ⟨#[106, 97, 108, 114]⟩, ⟨#[115, 100]⟩, ⟨#[98, 101, 113]⟩, ⟨#[98, 110, 101]⟩, ⟨#[98, 108, 116]⟩, ⟨#[98, 103, 101]⟩, ⟨#[108, 117, 105]⟩, ⟨#[106, 97, 108]⟩, ⟨#[101, 99, 97, 108, 108]⟩]
def nameOf (op : Int) : ByteArray := opNames.getD op.toNat ⟨#[]⟩
def formAgg (op : Int) : Value := .agg #[.int .u8 (kindOf op), .int .u32 (lowOf op), .int .u32 (midOf op), .int .u32 (highOf op), .string (nameOf op)]
def FormSaid (op : Int) (ok : Bool) : Prop := ∀ W : World, Calls Tryz.prog 38 #[.int .i64 op] W fun e W' => e = .returned (.tuple #[formAgg op, .bool ok]) ∧ Mods None W W'
theorem clo_r (m h : Int) (nm : ByteArray) (W : World) : Calls Tryz.prog 73 #[.int .u32 m, .int .u32 h, .string nm] W fun e W' => e = .returned (.tuple #[.agg #[.int .u8 82, .int .u32 51, .int .u32 m, .int .u32 h, .string nm], .bool true]) ∧ Mods None W W' := by
  go_enter Tryz.func73, Tryz.ntmps73
  go_wp2
  refine bodyPost_ret (v := .tuple #[.agg #[.int .u8 82, .int .u32 51, .int .u32 m, .int .u32 h, .string nm], .bool true]) (by simp [results, Tryz.results73, go_sem]) rfl ⟨rfl, ?_⟩
  repeat (first | with_reducible exact Mods.refl _ _ | with_reducible refine Mods.alloc ?_ _ | (refine Mods.setCell ?_ (fun h => absurd h (by simp)) _))
theorem clo_i (l m : Int) (nm : ByteArray) (W : World) : Calls Tryz.prog 74 #[.int .u32 l, .int .u32 m, .string nm] W fun e W' => e = .returned (.tuple #[.agg #[.int .u8 73, .int .u32 l, .int .u32 m, .int .u32 0, .string nm], .bool true]) ∧ Mods None W W' := by
  go_enter Tryz.func74, Tryz.ntmps74
  go_wp2
  refine bodyPost_ret (v := .tuple #[.agg #[.int .u8 73, .int .u32 l, .int .u32 m, .int .u32 0, .string nm], .bool true]) (by simp [results, Tryz.results74, go_sem]) rfl ⟨rfl, ?_⟩
  repeat (first | with_reducible exact Mods.refl _ _ | with_reducible refine Mods.alloc ?_ _ | (refine Mods.setCell ?_ (fun h => absurd h (by simp)) _))
theorem clo_h (m h : Int) (nm : ByteArray) (W : World) : Calls Tryz.prog 75 #[.int .u32 m, .int .u32 h, .string nm] W fun e W' => e = .returned (.tuple #[.agg #[.int .u8 72, .int .u32 19, .int .u32 m, .int .u32 h, .string nm], .bool true]) ∧ Mods None W W' := by
  go_enter Tryz.func75, Tryz.ntmps75
  go_wp2
  refine bodyPost_ret (v := .tuple #[.agg #[.int .u8 72, .int .u32 19, .int .u32 m, .int .u32 h, .string nm], .bool true]) (by simp [results, Tryz.results75, go_sem]) rfl ⟨rfl, ?_⟩
  repeat (first | with_reducible exact Mods.refl _ _ | with_reducible refine Mods.alloc ?_ _ | (refine Mods.setCell ?_ (fun h => absurd h (by simp)) _))
theorem clo_b (m : Int) (nm : ByteArray) (W : World) : Calls Tryz.prog 76 #[.int .u32 m, .string nm] W fun e W' => e = .returned (.tuple #[.agg #[.int .u8 66, .int .u32 99, .int .u32 m, .int .u32 0, .string nm], .bool true]) ∧ Mods None W W' := by
  go_enter Tryz.func76, Tryz.ntmps76
  go_wp2
  refine bodyPost_ret (v := .tuple #[.agg #[.int .u8 66, .int .u32 99, .int .u32 m, .int .u32 0, .string nm], .bool true]) (by simp [results, Tryz.results76, go_sem]) rfl ⟨rfl, ?_⟩
  repeat (first | with_reducible exact Mods.refl _ _ | with_reducible refine Mods.alloc ?_ _ | (refine Mods.setCell ?_ (fun h => absurd h (by simp)) _))
set_option maxRecDepth 100000 in
theorem form_1 : FormSaid 1 true := by
  intro W
  have e : formAgg 1 = .agg #[.int .u8 82, .int .u32 51, .int .u32 0, .int .u32 0, .string ⟨#[97, 100, 100]⟩] := by kernel_rfl
  rw [e]
  clear e
  go_enter Tryz.func38, Tryz.ntmps38
  go_wp2_with (first | (go_at_call 73; refine (clo_r _ _ _ _).mono ?_; rintro e w1 ⟨rfl, hm⟩; have hb := (Blk.new W #[.int .u8 0, .int .u32 0, .int .u32 0, .int .u32 0, .string ⟨#[]⟩] 87).mods hm (fun f => f); have c0 := hb.cell (i := 0) rfl; have c1 := hb.cell (i := 1) rfl; have c2 := hb.cell (i := 2) rfl; have c3 := hb.cell (i := 3) rfl; have c4 := hb.cell (i := 4) rfl; have cf := hb.free; clear hb))
  refine bodyPost_ret (v := .tuple #[.agg #[.int .u8 82, .int .u32 51, .int .u32 0, .int .u32 0, .string ⟨#[97, 100, 100]⟩], .bool true]) (by simp [results, Tryz.results38, go_sem, c0, c1, c2, c3, c4]) rfl ⟨rfl, ?_⟩
  exact ((((((Mods.refl None W).alloc _).trans hm).setCell (fun h => absurd h (Nat.lt_irrefl _)) _).setCell (fun h => absurd h (Nat.lt_irrefl _)) _).setCell (fun h => absurd h (Nat.lt_irrefl _)) _).setCell (fun h => absurd h (Nat.lt_irrefl _)) _ |>.setCell (fun h => absurd h (Nat.lt_irrefl _)) _
set_option maxRecDepth 100000 in
theorem form_2 : FormSaid 2 true := by
  intro W
  have e : formAgg 2 = .agg #[.int .u8 82, .int .u32 51, .int .u32 0, .int .u32 32, .string ⟨#[115, 117, 98]⟩] := by kernel_rfl
  rw [e]
  clear e
  go_enter Tryz.func38, Tryz.ntmps38
  go_wp2_with (first | (go_at_call 73; refine (clo_r _ _ _ _).mono ?_; rintro e w1 ⟨rfl, hm⟩; have hb := (Blk.new W #[.int .u8 0, .int .u32 0, .int .u32 0, .int .u32 0, .string ⟨#[]⟩] 87).mods hm (fun f => f); have c0 := hb.cell (i := 0) rfl; have c1 := hb.cell (i := 1) rfl; have c2 := hb.cell (i := 2) rfl; have c3 := hb.cell (i := 3) rfl; have c4 := hb.cell (i := 4) rfl; have cf := hb.free; clear hb))
  refine bodyPost_ret (v := .tuple #[.agg #[.int .u8 82, .int .u32 51, .int .u32 0, .int .u32 32, .string ⟨#[115, 117, 98]⟩], .bool true]) (by simp [results, Tryz.results38, go_sem, c0, c1, c2, c3, c4]) rfl ⟨rfl, ?_⟩
  exact ((((((Mods.refl None W).alloc _).trans hm).setCell (fun h => absurd h (Nat.lt_irrefl _)) _).setCell (fun h => absurd h (Nat.lt_irrefl _)) _).setCell (fun h => absurd h (Nat.lt_irrefl _)) _).setCell (fun h => absurd h (Nat.lt_irrefl _)) _ |>.setCell (fun h => absurd h (Nat.lt_irrefl _)) _
set_option maxRecDepth 100000 in
theorem form_3 : FormSaid 3 true := by
  intro W
  have e : formAgg 3 = .agg #[.int .u8 82, .int .u32 51, .int .u32 0, .int .u32 1, .string ⟨#[109, 117, 108]⟩] := by kernel_rfl
  rw [e]
  clear e
  go_enter Tryz.func38, Tryz.ntmps38
  go_wp2_with (first | (go_at_call 73; refine (clo_r _ _ _ _).mono ?_; rintro e w1 ⟨rfl, hm⟩; have hb := (Blk.new W #[.int .u8 0, .int .u32 0, .int .u32 0, .int .u32 0, .string ⟨#[]⟩] 87).mods hm (fun f => f); have c0 := hb.cell (i := 0) rfl; have c1 := hb.cell (i := 1) rfl; have c2 := hb.cell (i := 2) rfl; have c3 := hb.cell (i := 3) rfl; have c4 := hb.cell (i := 4) rfl; have cf := hb.free; clear hb))
  refine bodyPost_ret (v := .tuple #[.agg #[.int .u8 82, .int .u32 51, .int .u32 0, .int .u32 1, .string ⟨#[109, 117, 108]⟩], .bool true]) (by simp [results, Tryz.results38, go_sem, c0, c1, c2, c3, c4]) rfl ⟨rfl, ?_⟩
  exact ((((((Mods.refl None W).alloc _).trans hm).setCell (fun h => absurd h (Nat.lt_irrefl _)) _).setCell (fun h => absurd h (Nat.lt_irrefl _)) _).setCell (fun h => absurd h (Nat.lt_irrefl _)) _).setCell (fun h => absurd h (Nat.lt_irrefl _)) _ |>.setCell (fun h => absurd h (Nat.lt_irrefl _)) _
set_option maxRecDepth 100000 in
theorem form_4 : FormSaid 4 true := by
  intro W
  have e : formAgg 4 = .agg #[.int .u8 82, .int .u32 51, .int .u32 4, .int .u32 1, .string ⟨#[100, 105, 118]⟩] := by kernel_rfl
  rw [e]
  clear e
  go_enter Tryz.func38, Tryz.ntmps38
  go_wp2_with (first | (go_at_call 73; refine (clo_r _ _ _ _).mono ?_; rintro e w1 ⟨rfl, hm⟩; have hb := (Blk.new W #[.int .u8 0, .int .u32 0, .int .u32 0, .int .u32 0, .string ⟨#[]⟩] 87).mods hm (fun f => f); have c0 := hb.cell (i := 0) rfl; have c1 := hb.cell (i := 1) rfl; have c2 := hb.cell (i := 2) rfl; have c3 := hb.cell (i := 3) rfl; have c4 := hb.cell (i := 4) rfl; have cf := hb.free; clear hb))
  refine bodyPost_ret (v := .tuple #[.agg #[.int .u8 82, .int .u32 51, .int .u32 4, .int .u32 1, .string ⟨#[100, 105, 118]⟩], .bool true]) (by simp [results, Tryz.results38, go_sem, c0, c1, c2, c3, c4]) rfl ⟨rfl, ?_⟩
  exact ((((((Mods.refl None W).alloc _).trans hm).setCell (fun h => absurd h (Nat.lt_irrefl _)) _).setCell (fun h => absurd h (Nat.lt_irrefl _)) _).setCell (fun h => absurd h (Nat.lt_irrefl _)) _).setCell (fun h => absurd h (Nat.lt_irrefl _)) _ |>.setCell (fun h => absurd h (Nat.lt_irrefl _)) _
set_option maxRecDepth 100000 in
theorem form_5 : FormSaid 5 true := by
  intro W
  have e : formAgg 5 = .agg #[.int .u8 82, .int .u32 51, .int .u32 6, .int .u32 1, .string ⟨#[114, 101, 109]⟩] := by kernel_rfl
  rw [e]
  clear e
  go_enter Tryz.func38, Tryz.ntmps38
  go_wp2_with (first | (go_at_call 73; refine (clo_r _ _ _ _).mono ?_; rintro e w1 ⟨rfl, hm⟩; have hb := (Blk.new W #[.int .u8 0, .int .u32 0, .int .u32 0, .int .u32 0, .string ⟨#[]⟩] 87).mods hm (fun f => f); have c0 := hb.cell (i := 0) rfl; have c1 := hb.cell (i := 1) rfl; have c2 := hb.cell (i := 2) rfl; have c3 := hb.cell (i := 3) rfl; have c4 := hb.cell (i := 4) rfl; have cf := hb.free; clear hb))
  refine bodyPost_ret (v := .tuple #[.agg #[.int .u8 82, .int .u32 51, .int .u32 6, .int .u32 1, .string ⟨#[114, 101, 109]⟩], .bool true]) (by simp [results, Tryz.results38, go_sem, c0, c1, c2, c3, c4]) rfl ⟨rfl, ?_⟩
  exact ((((((Mods.refl None W).alloc _).trans hm).setCell (fun h => absurd h (Nat.lt_irrefl _)) _).setCell (fun h => absurd h (Nat.lt_irrefl _)) _).setCell (fun h => absurd h (Nat.lt_irrefl _)) _).setCell (fun h => absurd h (Nat.lt_irrefl _)) _ |>.setCell (fun h => absurd h (Nat.lt_irrefl _)) _
set_option maxRecDepth 100000 in
theorem form_6 : FormSaid 6 true := by
  intro W
  have e : formAgg 6 = .agg #[.int .u8 82, .int .u32 51, .int .u32 7, .int .u32 0, .string ⟨#[97, 110, 100]⟩] := by kernel_rfl
  rw [e]
  clear e
  go_enter Tryz.func38, Tryz.ntmps38
  go_wp2_with (first | (go_at_call 73; refine (clo_r _ _ _ _).mono ?_; rintro e w1 ⟨rfl, hm⟩; have hb := (Blk.new W #[.int .u8 0, .int .u32 0, .int .u32 0, .int .u32 0, .string ⟨#[]⟩] 87).mods hm (fun f => f); have c0 := hb.cell (i := 0) rfl; have c1 := hb.cell (i := 1) rfl; have c2 := hb.cell (i := 2) rfl; have c3 := hb.cell (i := 3) rfl; have c4 := hb.cell (i := 4) rfl; have cf := hb.free; clear hb))
  refine bodyPost_ret (v := .tuple #[.agg #[.int .u8 82, .int .u32 51, .int .u32 7, .int .u32 0, .string ⟨#[97, 110, 100]⟩], .bool true]) (by simp [results, Tryz.results38, go_sem, c0, c1, c2, c3, c4]) rfl ⟨rfl, ?_⟩
  exact ((((((Mods.refl None W).alloc _).trans hm).setCell (fun h => absurd h (Nat.lt_irrefl _)) _).setCell (fun h => absurd h (Nat.lt_irrefl _)) _).setCell (fun h => absurd h (Nat.lt_irrefl _)) _).setCell (fun h => absurd h (Nat.lt_irrefl _)) _ |>.setCell (fun h => absurd h (Nat.lt_irrefl _)) _
set_option maxRecDepth 100000 in
theorem form_7 : FormSaid 7 true := by
  intro W
  have e : formAgg 7 = .agg #[.int .u8 82, .int .u32 51, .int .u32 6, .int .u32 0, .string ⟨#[111, 114]⟩] := by kernel_rfl
  rw [e]
  clear e
  go_enter Tryz.func38, Tryz.ntmps38
  go_wp2_with (first | (go_at_call 73; refine (clo_r _ _ _ _).mono ?_; rintro e w1 ⟨rfl, hm⟩; have hb := (Blk.new W #[.int .u8 0, .int .u32 0, .int .u32 0, .int .u32 0, .string ⟨#[]⟩] 87).mods hm (fun f => f); have c0 := hb.cell (i := 0) rfl; have c1 := hb.cell (i := 1) rfl; have c2 := hb.cell (i := 2) rfl; have c3 := hb.cell (i := 3) rfl; have c4 := hb.cell (i := 4) rfl; have cf := hb.free; clear hb))
  refine bodyPost_ret (v := .tuple #[.agg #[.int .u8 82, .int .u32 51, .int .u32 6, .int .u32 0, .string ⟨#[111, 114]⟩], .bool true]) (by simp [results, Tryz.results38, go_sem, c0, c1, c2, c3, c4]) rfl ⟨rfl, ?_⟩
  exact ((((((Mods.refl None W).alloc _).trans hm).setCell (fun h => absurd h (Nat.lt_irrefl _)) _).setCell (fun h => absurd h (Nat.lt_irrefl _)) _).setCell (fun h => absurd h (Nat.lt_irrefl _)) _).setCell (fun h => absurd h (Nat.lt_irrefl _)) _ |>.setCell (fun h => absurd h (Nat.lt_irrefl _)) _
set_option maxRecDepth 100000 in
theorem form_8 : FormSaid 8 true := by
  intro W
  have e : formAgg 8 = .agg #[.int .u8 82, .int .u32 51, .int .u32 4, .int .u32 0, .string ⟨#[120, 111, 114]⟩] := by kernel_rfl
  rw [e]
  clear e
  go_enter Tryz.func38, Tryz.ntmps38
  go_wp2_with (first | (go_at_call 73; refine (clo_r _ _ _ _).mono ?_; rintro e w1 ⟨rfl, hm⟩; have hb := (Blk.new W #[.int .u8 0, .int .u32 0, .int .u32 0, .int .u32 0, .string ⟨#[]⟩] 87).mods hm (fun f => f); have c0 := hb.cell (i := 0) rfl; have c1 := hb.cell (i := 1) rfl; have c2 := hb.cell (i := 2) rfl; have c3 := hb.cell (i := 3) rfl; have c4 := hb.cell (i := 4) rfl; have cf := hb.free; clear hb))
  refine bodyPost_ret (v := .tuple #[.agg #[.int .u8 82, .int .u32 51, .int .u32 4, .int .u32 0, .string ⟨#[120, 111, 114]⟩], .bool true]) (by simp [results, Tryz.results38, go_sem, c0, c1, c2, c3, c4]) rfl ⟨rfl, ?_⟩
  exact ((((((Mods.refl None W).alloc _).trans hm).setCell (fun h => absurd h (Nat.lt_irrefl _)) _).setCell (fun h => absurd h (Nat.lt_irrefl _)) _).setCell (fun h => absurd h (Nat.lt_irrefl _)) _).setCell (fun h => absurd h (Nat.lt_irrefl _)) _ |>.setCell (fun h => absurd h (Nat.lt_irrefl _)) _
set_option maxRecDepth 100000 in
theorem form_9 : FormSaid 9 true := by
  intro W
  have e : formAgg 9 = .agg #[.int .u8 82, .int .u32 51, .int .u32 2, .int .u32 0, .string ⟨#[115, 108, 116]⟩] := by kernel_rfl
  rw [e]
  clear e
  go_enter Tryz.func38, Tryz.ntmps38
  go_wp2_with (first | (go_at_call 73; refine (clo_r _ _ _ _).mono ?_; rintro e w1 ⟨rfl, hm⟩; have hb := (Blk.new W #[.int .u8 0, .int .u32 0, .int .u32 0, .int .u32 0, .string ⟨#[]⟩] 87).mods hm (fun f => f); have c0 := hb.cell (i := 0) rfl; have c1 := hb.cell (i := 1) rfl; have c2 := hb.cell (i := 2) rfl; have c3 := hb.cell (i := 3) rfl; have c4 := hb.cell (i := 4) rfl; have cf := hb.free; clear hb))
  refine bodyPost_ret (v := .tuple #[.agg #[.int .u8 82, .int .u32 51, .int .u32 2, .int .u32 0, .string ⟨#[115, 108, 116]⟩], .bool true]) (by simp [results, Tryz.results38, go_sem, c0, c1, c2, c3, c4]) rfl ⟨rfl, ?_⟩
  exact ((((((Mods.refl None W).alloc _).trans hm).setCell (fun h => absurd h (Nat.lt_irrefl _)) _).setCell (fun h => absurd h (Nat.lt_irrefl _)) _).setCell (fun h => absurd h (Nat.lt_irrefl _)) _).setCell (fun h => absurd h (Nat.lt_irrefl _)) _ |>.setCell (fun h => absurd h (Nat.lt_irrefl _)) _
set_option maxRecDepth 100000 in
theorem form_10 : FormSaid 10 true := by
  intro W
  have e : formAgg 10 = .agg #[.int .u8 82, .int .u32 51, .int .u32 3, .int .u32 0, .string ⟨#[115, 108, 116, 117]⟩] := by kernel_rfl
  rw [e]
  clear e
  go_enter Tryz.func38, Tryz.ntmps38
  go_wp2_with (first | (go_at_call 73; refine (clo_r _ _ _ _).mono ?_; rintro e w1 ⟨rfl, hm⟩; have hb := (Blk.new W #[.int .u8 0, .int .u32 0, .int .u32 0, .int .u32 0, .string ⟨#[]⟩] 87).mods hm (fun f => f); have c0 := hb.cell (i := 0) rfl; have c1 := hb.cell (i := 1) rfl; have c2 := hb.cell (i := 2) rfl; have c3 := hb.cell (i := 3) rfl; have c4 := hb.cell (i := 4) rfl; have cf := hb.free; clear hb))
  refine bodyPost_ret (v := .tuple #[.agg #[.int .u8 82, .int .u32 51, .int .u32 3, .int .u32 0, .string ⟨#[115, 108, 116, 117]⟩], .bool true]) (by simp [results, Tryz.results38, go_sem, c0, c1, c2, c3, c4]) rfl ⟨rfl, ?_⟩
  exact ((((((Mods.refl None W).alloc _).trans hm).setCell (fun h => absurd h (Nat.lt_irrefl _)) _).setCell (fun h => absurd h (Nat.lt_irrefl _)) _).setCell (fun h => absurd h (Nat.lt_irrefl _)) _).setCell (fun h => absurd h (Nat.lt_irrefl _)) _ |>.setCell (fun h => absurd h (Nat.lt_irrefl _)) _
set_option maxRecDepth 100000 in
theorem form_11 : FormSaid 11 true := by
  intro W
  have e : formAgg 11 = .agg #[.int .u8 82, .int .u32 51, .int .u32 1, .int .u32 0, .string ⟨#[115, 108, 108]⟩] := by kernel_rfl
  rw [e]
  clear e
  go_enter Tryz.func38, Tryz.ntmps38
  go_wp2_with (first | (go_at_call 73; refine (clo_r _ _ _ _).mono ?_; rintro e w1 ⟨rfl, hm⟩; have hb := (Blk.new W #[.int .u8 0, .int .u32 0, .int .u32 0, .int .u32 0, .string ⟨#[]⟩] 87).mods hm (fun f => f); have c0 := hb.cell (i := 0) rfl; have c1 := hb.cell (i := 1) rfl; have c2 := hb.cell (i := 2) rfl; have c3 := hb.cell (i := 3) rfl; have c4 := hb.cell (i := 4) rfl; have cf := hb.free; clear hb))
  refine bodyPost_ret (v := .tuple #[.agg #[.int .u8 82, .int .u32 51, .int .u32 1, .int .u32 0, .string ⟨#[115, 108, 108]⟩], .bool true]) (by simp [results, Tryz.results38, go_sem, c0, c1, c2, c3, c4]) rfl ⟨rfl, ?_⟩
  exact ((((((Mods.refl None W).alloc _).trans hm).setCell (fun h => absurd h (Nat.lt_irrefl _)) _).setCell (fun h => absurd h (Nat.lt_irrefl _)) _).setCell (fun h => absurd h (Nat.lt_irrefl _)) _).setCell (fun h => absurd h (Nat.lt_irrefl _)) _ |>.setCell (fun h => absurd h (Nat.lt_irrefl _)) _
set_option maxRecDepth 100000 in
theorem form_12 : FormSaid 12 true := by
  intro W
  have e : formAgg 12 = .agg #[.int .u8 82, .int .u32 51, .int .u32 5, .int .u32 0, .string ⟨#[115, 114, 108]⟩] := by kernel_rfl
  rw [e]
  clear e
  go_enter Tryz.func38, Tryz.ntmps38
  go_wp2_with (first | (go_at_call 73; refine (clo_r _ _ _ _).mono ?_; rintro e w1 ⟨rfl, hm⟩; have hb := (Blk.new W #[.int .u8 0, .int .u32 0, .int .u32 0, .int .u32 0, .string ⟨#[]⟩] 87).mods hm (fun f => f); have c0 := hb.cell (i := 0) rfl; have c1 := hb.cell (i := 1) rfl; have c2 := hb.cell (i := 2) rfl; have c3 := hb.cell (i := 3) rfl; have c4 := hb.cell (i := 4) rfl; have cf := hb.free; clear hb))
  refine bodyPost_ret (v := .tuple #[.agg #[.int .u8 82, .int .u32 51, .int .u32 5, .int .u32 0, .string ⟨#[115, 114, 108]⟩], .bool true]) (by simp [results, Tryz.results38, go_sem, c0, c1, c2, c3, c4]) rfl ⟨rfl, ?_⟩
  exact ((((((Mods.refl None W).alloc _).trans hm).setCell (fun h => absurd h (Nat.lt_irrefl _)) _).setCell (fun h => absurd h (Nat.lt_irrefl _)) _).setCell (fun h => absurd h (Nat.lt_irrefl _)) _).setCell (fun h => absurd h (Nat.lt_irrefl _)) _ |>.setCell (fun h => absurd h (Nat.lt_irrefl _)) _
set_option maxRecDepth 100000 in
theorem form_13 : FormSaid 13 true := by
  intro W
  have e : formAgg 13 = .agg #[.int .u8 82, .int .u32 51, .int .u32 5, .int .u32 32, .string ⟨#[115, 114, 97]⟩] := by kernel_rfl
  rw [e]
  clear e
  go_enter Tryz.func38, Tryz.ntmps38
  go_wp2_with (first | (go_at_call 73; refine (clo_r _ _ _ _).mono ?_; rintro e w1 ⟨rfl, hm⟩; have hb := (Blk.new W #[.int .u8 0, .int .u32 0, .int .u32 0, .int .u32 0, .string ⟨#[]⟩] 87).mods hm (fun f => f); have c0 := hb.cell (i := 0) rfl; have c1 := hb.cell (i := 1) rfl; have c2 := hb.cell (i := 2) rfl; have c3 := hb.cell (i := 3) rfl; have c4 := hb.cell (i := 4) rfl; have cf := hb.free; clear hb))
  refine bodyPost_ret (v := .tuple #[.agg #[.int .u8 82, .int .u32 51, .int .u32 5, .int .u32 32, .string ⟨#[115, 114, 97]⟩], .bool true]) (by simp [results, Tryz.results38, go_sem, c0, c1, c2, c3, c4]) rfl ⟨rfl, ?_⟩
  exact ((((((Mods.refl None W).alloc _).trans hm).setCell (fun h => absurd h (Nat.lt_irrefl _)) _).setCell (fun h => absurd h (Nat.lt_irrefl _)) _).setCell (fun h => absurd h (Nat.lt_irrefl _)) _).setCell (fun h => absurd h (Nat.lt_irrefl _)) _ |>.setCell (fun h => absurd h (Nat.lt_irrefl _)) _
set_option maxRecDepth 100000 in
theorem form_14 : FormSaid 14 true := by
  intro W
  have e : formAgg 14 = .agg #[.int .u8 73, .int .u32 19, .int .u32 0, .int .u32 0, .string ⟨#[97, 100, 100, 105]⟩] := by kernel_rfl
  rw [e]
  clear e
  go_enter Tryz.func38, Tryz.ntmps38
  go_wp2_with (first | (go_at_call 74; refine (clo_i _ _ _ _).mono ?_; rintro e w1 ⟨rfl, hm⟩; have hb := (Blk.new W #[.int .u8 0, .int .u32 0, .int .u32 0, .int .u32 0, .string ⟨#[]⟩] 87).mods hm (fun f => f); have c0 := hb.cell (i := 0) rfl; have c1 := hb.cell (i := 1) rfl; have c2 := hb.cell (i := 2) rfl; have c3 := hb.cell (i := 3) rfl; have c4 := hb.cell (i := 4) rfl; have cf := hb.free; clear hb))
  refine bodyPost_ret (v := .tuple #[.agg #[.int .u8 73, .int .u32 19, .int .u32 0, .int .u32 0, .string ⟨#[97, 100, 100, 105]⟩], .bool true]) (by simp [results, Tryz.results38, go_sem, c0, c1, c2, c3, c4]) rfl ⟨rfl, ?_⟩
  exact ((((((Mods.refl None W).alloc _).trans hm).setCell (fun h => absurd h (Nat.lt_irrefl _)) _).setCell (fun h => absurd h (Nat.lt_irrefl _)) _).setCell (fun h => absurd h (Nat.lt_irrefl _)) _).setCell (fun h => absurd h (Nat.lt_irrefl _)) _ |>.setCell (fun h => absurd h (Nat.lt_irrefl _)) _
set_option maxRecDepth 100000 in
theorem form_15 : FormSaid 15 true := by
  intro W
  have e : formAgg 15 = .agg #[.int .u8 73, .int .u32 19, .int .u32 7, .int .u32 0, .string ⟨#[97, 110, 100, 105]⟩] := by kernel_rfl
  rw [e]
  clear e
  go_enter Tryz.func38, Tryz.ntmps38
  go_wp2_with (first | (go_at_call 74; refine (clo_i _ _ _ _).mono ?_; rintro e w1 ⟨rfl, hm⟩; have hb := (Blk.new W #[.int .u8 0, .int .u32 0, .int .u32 0, .int .u32 0, .string ⟨#[]⟩] 87).mods hm (fun f => f); have c0 := hb.cell (i := 0) rfl; have c1 := hb.cell (i := 1) rfl; have c2 := hb.cell (i := 2) rfl; have c3 := hb.cell (i := 3) rfl; have c4 := hb.cell (i := 4) rfl; have cf := hb.free; clear hb))
  refine bodyPost_ret (v := .tuple #[.agg #[.int .u8 73, .int .u32 19, .int .u32 7, .int .u32 0, .string ⟨#[97, 110, 100, 105]⟩], .bool true]) (by simp [results, Tryz.results38, go_sem, c0, c1, c2, c3, c4]) rfl ⟨rfl, ?_⟩
  exact ((((((Mods.refl None W).alloc _).trans hm).setCell (fun h => absurd h (Nat.lt_irrefl _)) _).setCell (fun h => absurd h (Nat.lt_irrefl _)) _).setCell (fun h => absurd h (Nat.lt_irrefl _)) _).setCell (fun h => absurd h (Nat.lt_irrefl _)) _ |>.setCell (fun h => absurd h (Nat.lt_irrefl _)) _
set_option maxRecDepth 100000 in
theorem form_16 : FormSaid 16 true := by
  intro W
  have e : formAgg 16 = .agg #[.int .u8 73, .int .u32 19, .int .u32 6, .int .u32 0, .string ⟨#[111, 114, 105]⟩] := by kernel_rfl
  rw [e]
  clear e
  go_enter Tryz.func38, Tryz.ntmps38
  go_wp2_with (first | (go_at_call 74; refine (clo_i _ _ _ _).mono ?_; rintro e w1 ⟨rfl, hm⟩; have hb := (Blk.new W #[.int .u8 0, .int .u32 0, .int .u32 0, .int .u32 0, .string ⟨#[]⟩] 87).mods hm (fun f => f); have c0 := hb.cell (i := 0) rfl; have c1 := hb.cell (i := 1) rfl; have c2 := hb.cell (i := 2) rfl; have c3 := hb.cell (i := 3) rfl; have c4 := hb.cell (i := 4) rfl; have cf := hb.free; clear hb))
  refine bodyPost_ret (v := .tuple #[.agg #[.int .u8 73, .int .u32 19, .int .u32 6, .int .u32 0, .string ⟨#[111, 114, 105]⟩], .bool true]) (by simp [results, Tryz.results38, go_sem, c0, c1, c2, c3, c4]) rfl ⟨rfl, ?_⟩
  exact ((((((Mods.refl None W).alloc _).trans hm).setCell (fun h => absurd h (Nat.lt_irrefl _)) _).setCell (fun h => absurd h (Nat.lt_irrefl _)) _).setCell (fun h => absurd h (Nat.lt_irrefl _)) _).setCell (fun h => absurd h (Nat.lt_irrefl _)) _ |>.setCell (fun h => absurd h (Nat.lt_irrefl _)) _
set_option maxRecDepth 100000 in
theorem form_17 : FormSaid 17 true := by
  intro W
  have e : formAgg 17 = .agg #[.int .u8 73, .int .u32 19, .int .u32 4, .int .u32 0, .string ⟨#[120, 111, 114, 105]⟩] := by kernel_rfl
  rw [e]
  clear e
  go_enter Tryz.func38, Tryz.ntmps38
  go_wp2_with (first | (go_at_call 74; refine (clo_i _ _ _ _).mono ?_; rintro e w1 ⟨rfl, hm⟩; have hb := (Blk.new W #[.int .u8 0, .int .u32 0, .int .u32 0, .int .u32 0, .string ⟨#[]⟩] 87).mods hm (fun f => f); have c0 := hb.cell (i := 0) rfl; have c1 := hb.cell (i := 1) rfl; have c2 := hb.cell (i := 2) rfl; have c3 := hb.cell (i := 3) rfl; have c4 := hb.cell (i := 4) rfl; have cf := hb.free; clear hb))
  refine bodyPost_ret (v := .tuple #[.agg #[.int .u8 73, .int .u32 19, .int .u32 4, .int .u32 0, .string ⟨#[120, 111, 114, 105]⟩], .bool true]) (by simp [results, Tryz.results38, go_sem, c0, c1, c2, c3, c4]) rfl ⟨rfl, ?_⟩
  exact ((((((Mods.refl None W).alloc _).trans hm).setCell (fun h => absurd h (Nat.lt_irrefl _)) _).setCell (fun h => absurd h (Nat.lt_irrefl _)) _).setCell (fun h => absurd h (Nat.lt_irrefl _)) _).setCell (fun h => absurd h (Nat.lt_irrefl _)) _ |>.setCell (fun h => absurd h (Nat.lt_irrefl _)) _
set_option maxRecDepth 100000 in
theorem form_18 : FormSaid 18 true := by
  intro W
  have e : formAgg 18 = .agg #[.int .u8 73, .int .u32 19, .int .u32 2, .int .u32 0, .string ⟨#[115, 108, 116, 105]⟩] := by kernel_rfl
  rw [e]
  clear e
  go_enter Tryz.func38, Tryz.ntmps38
  go_wp2_with (first | (go_at_call 74; refine (clo_i _ _ _ _).mono ?_; rintro e w1 ⟨rfl, hm⟩; have hb := (Blk.new W #[.int .u8 0, .int .u32 0, .int .u32 0, .int .u32 0, .string ⟨#[]⟩] 87).mods hm (fun f => f); have c0 := hb.cell (i := 0) rfl; have c1 := hb.cell (i := 1) rfl; have c2 := hb.cell (i := 2) rfl; have c3 := hb.cell (i := 3) rfl; have c4 := hb.cell (i := 4) rfl; have cf := hb.free; clear hb))
  refine bodyPost_ret (v := .tuple #[.agg #[.int .u8 73, .int .u32 19, .int .u32 2, .int .u32 0, .string ⟨#[115, 108, 116, 105]⟩], .bool true]) (by simp [results, Tryz.results38, go_sem, c0, c1, c2, c3, c4]) rfl ⟨rfl, ?_⟩
  exact ((((((Mods.refl None W).alloc _).trans hm).setCell (fun h => absurd h (Nat.lt_irrefl _)) _).setCell (fun h => absurd h (Nat.lt_irrefl _)) _).setCell (fun h => absurd h (Nat.lt_irrefl _)) _).setCell (fun h => absurd h (Nat.lt_irrefl _)) _ |>.setCell (fun h => absurd h (Nat.lt_irrefl _)) _
set_option maxRecDepth 100000 in
theorem form_19 : FormSaid 19 true := by
  intro W
  have e : formAgg 19 = .agg #[.int .u8 72, .int .u32 19, .int .u32 1, .int .u32 0, .string ⟨#[115, 108, 108, 105]⟩] := by kernel_rfl
  rw [e]
  clear e
  go_enter Tryz.func38, Tryz.ntmps38
  go_wp2_with (first | (go_at_call 75; refine (clo_h _ _ _ _).mono ?_; rintro e w1 ⟨rfl, hm⟩; have hb := (Blk.new W #[.int .u8 0, .int .u32 0, .int .u32 0, .int .u32 0, .string ⟨#[]⟩] 87).mods hm (fun f => f); have c0 := hb.cell (i := 0) rfl; have c1 := hb.cell (i := 1) rfl; have c2 := hb.cell (i := 2) rfl; have c3 := hb.cell (i := 3) rfl; have c4 := hb.cell (i := 4) rfl; have cf := hb.free; clear hb))
  refine bodyPost_ret (v := .tuple #[.agg #[.int .u8 72, .int .u32 19, .int .u32 1, .int .u32 0, .string ⟨#[115, 108, 108, 105]⟩], .bool true]) (by simp [results, Tryz.results38, go_sem, c0, c1, c2, c3, c4]) rfl ⟨rfl, ?_⟩
  exact ((((((Mods.refl None W).alloc _).trans hm).setCell (fun h => absurd h (Nat.lt_irrefl _)) _).setCell (fun h => absurd h (Nat.lt_irrefl _)) _).setCell (fun h => absurd h (Nat.lt_irrefl _)) _).setCell (fun h => absurd h (Nat.lt_irrefl _)) _ |>.setCell (fun h => absurd h (Nat.lt_irrefl _)) _
set_option maxRecDepth 100000 in
theorem form_20 : FormSaid 20 true := by
  intro W
  have e : formAgg 20 = .agg #[.int .u8 72, .int .u32 19, .int .u32 5, .int .u32 0, .string ⟨#[115, 114, 108, 105]⟩] := by kernel_rfl
  rw [e]
  clear e
  go_enter Tryz.func38, Tryz.ntmps38
  go_wp2_with (first | (go_at_call 75; refine (clo_h _ _ _ _).mono ?_; rintro e w1 ⟨rfl, hm⟩; have hb := (Blk.new W #[.int .u8 0, .int .u32 0, .int .u32 0, .int .u32 0, .string ⟨#[]⟩] 87).mods hm (fun f => f); have c0 := hb.cell (i := 0) rfl; have c1 := hb.cell (i := 1) rfl; have c2 := hb.cell (i := 2) rfl; have c3 := hb.cell (i := 3) rfl; have c4 := hb.cell (i := 4) rfl; have cf := hb.free; clear hb))
  refine bodyPost_ret (v := .tuple #[.agg #[.int .u8 72, .int .u32 19, .int .u32 5, .int .u32 0, .string ⟨#[115, 114, 108, 105]⟩], .bool true]) (by simp [results, Tryz.results38, go_sem, c0, c1, c2, c3, c4]) rfl ⟨rfl, ?_⟩
  exact ((((((Mods.refl None W).alloc _).trans hm).setCell (fun h => absurd h (Nat.lt_irrefl _)) _).setCell (fun h => absurd h (Nat.lt_irrefl _)) _).setCell (fun h => absurd h (Nat.lt_irrefl _)) _).setCell (fun h => absurd h (Nat.lt_irrefl _)) _ |>.setCell (fun h => absurd h (Nat.lt_irrefl _)) _
set_option maxRecDepth 100000 in
theorem form_21 : FormSaid 21 true := by
  intro W
  have e : formAgg 21 = .agg #[.int .u8 72, .int .u32 19, .int .u32 5, .int .u32 32, .string ⟨#[115, 114, 97, 105]⟩] := by kernel_rfl
  rw [e]
  clear e
  go_enter Tryz.func38, Tryz.ntmps38
  go_wp2_with (first | (go_at_call 75; refine (clo_h _ _ _ _).mono ?_; rintro e w1 ⟨rfl, hm⟩; have hb := (Blk.new W #[.int .u8 0, .int .u32 0, .int .u32 0, .int .u32 0, .string ⟨#[]⟩] 87).mods hm (fun f => f); have c0 := hb.cell (i := 0) rfl; have c1 := hb.cell (i := 1) rfl; have c2 := hb.cell (i := 2) rfl; have c3 := hb.cell (i := 3) rfl; have c4 := hb.cell (i := 4) rfl; have cf := hb.free; clear hb))
  refine bodyPost_ret (v := .tuple #[.agg #[.int .u8 72, .int .u32 19, .int .u32 5, .int .u32 32, .string ⟨#[115, 114, 97, 105]⟩], .bool true]) (by simp [results, Tryz.results38, go_sem, c0, c1, c2, c3, c4]) rfl ⟨rfl, ?_⟩
  exact ((((((Mods.refl None W).alloc _).trans hm).setCell (fun h => absurd h (Nat.lt_irrefl _)) _).setCell (fun h => absurd h (Nat.lt_irrefl _)) _).setCell (fun h => absurd h (Nat.lt_irrefl _)) _).setCell (fun h => absurd h (Nat.lt_irrefl _)) _ |>.setCell (fun h => absurd h (Nat.lt_irrefl _)) _
set_option maxRecDepth 100000 in
theorem form_22 : FormSaid 22 true := by
  intro W
  have e : formAgg 22 = .agg #[.int .u8 73, .int .u32 3, .int .u32 3, .int .u32 0, .string ⟨#[108, 100]⟩] := by kernel_rfl
  rw [e]
  clear e
  go_enter Tryz.func38, Tryz.ntmps38
  go_wp2_with (first | (go_at_call 74; refine (clo_i _ _ _ _).mono ?_; rintro e w1 ⟨rfl, hm⟩; have hb := (Blk.new W #[.int .u8 0, .int .u32 0, .int .u32 0, .int .u32 0, .string ⟨#[]⟩] 87).mods hm (fun f => f); have c0 := hb.cell (i := 0) rfl; have c1 := hb.cell (i := 1) rfl; have c2 := hb.cell (i := 2) rfl; have c3 := hb.cell (i := 3) rfl; have c4 := hb.cell (i := 4) rfl; have cf := hb.free; clear hb))
  refine bodyPost_ret (v := .tuple #[.agg #[.int .u8 73, .int .u32 3, .int .u32 3, .int .u32 0, .string ⟨#[108, 100]⟩], .bool true]) (by simp [results, Tryz.results38, go_sem, c0, c1, c2, c3, c4]) rfl ⟨rfl, ?_⟩
  exact ((((((Mods.refl None W).alloc _).trans hm).setCell (fun h => absurd h (Nat.lt_irrefl _)) _).setCell (fun h => absurd h (Nat.lt_irrefl _)) _).setCell (fun h => absurd h (Nat.lt_irrefl _)) _).setCell (fun h => absurd h (Nat.lt_irrefl _)) _ |>.setCell (fun h => absurd h (Nat.lt_irrefl _)) _
set_option maxRecDepth 100000 in
theorem form_23 : FormSaid 23 true := by
  intro W
  have e : formAgg 23 = .agg #[.int .u8 73, .int .u32 103, .int .u32 0, .int .u32 0, .string ⟨#[106, 97, 108, 114]⟩] := by kernel_rfl
  rw [e]
  clear e
  go_enter Tryz.func38, Tryz.ntmps38
  go_wp2_with (first | (go_at_call 74; refine (clo_i _ _ _ _).mono ?_; rintro e w1 ⟨rfl, hm⟩; have hb := (Blk.new W #[.int .u8 0, .int .u32 0, .int .u32 0, .int .u32 0, .string ⟨#[]⟩] 87).mods hm (fun f => f); have c0 := hb.cell (i := 0) rfl; have c1 := hb.cell (i := 1) rfl; have c2 := hb.cell (i := 2) rfl; have c3 := hb.cell (i := 3) rfl; have c4 := hb.cell (i := 4) rfl; have cf := hb.free; clear hb))
  refine bodyPost_ret (v := .tuple #[.agg #[.int .u8 73, .int .u32 103, .int .u32 0, .int .u32 0, .string ⟨#[106, 97, 108, 114]⟩], .bool true]) (by simp [results, Tryz.results38, go_sem, c0, c1, c2, c3, c4]) rfl ⟨rfl, ?_⟩
  exact ((((((Mods.refl None W).alloc _).trans hm).setCell (fun h => absurd h (Nat.lt_irrefl _)) _).setCell (fun h => absurd h (Nat.lt_irrefl _)) _).setCell (fun h => absurd h (Nat.lt_irrefl _)) _).setCell (fun h => absurd h (Nat.lt_irrefl _)) _ |>.setCell (fun h => absurd h (Nat.lt_irrefl _)) _
set_option maxRecDepth 100000 in
theorem form_24 : FormSaid 24 true := by
  intro W
  have e : formAgg 24 = .agg #[.int .u8 83, .int .u32 35, .int .u32 3, .int .u32 0, .string ⟨#[115, 100]⟩] := by kernel_rfl
  rw [e]
  clear e
  go_enter Tryz.func38, Tryz.ntmps38
  go_wp2_with (fail)
  refine bodyPost_ret (v := .tuple #[.agg #[.int .u8 83, .int .u32 35, .int .u32 3, .int .u32 0, .string ⟨#[115, 100]⟩], .bool true]) (by simp [results, Tryz.results38, go_sem]) rfl ⟨rfl, ?_⟩
  repeat (first | with_reducible exact Mods.refl _ _ | with_reducible refine Mods.alloc ?_ _)
set_option maxRecDepth 100000 in
theorem form_25 : FormSaid 25 true := by
  intro W
  have e : formAgg 25 = .agg #[.int .u8 66, .int .u32 99, .int .u32 0, .int .u32 0, .string ⟨#[98, 101, 113]⟩] := by kernel_rfl
  rw [e]
  clear e
  go_enter Tryz.func38, Tryz.ntmps38
  go_wp2_with (first | (go_at_call 76; refine (clo_b _ _ _).mono ?_; rintro e w1 ⟨rfl, hm⟩; have hb := (Blk.new W #[.int .u8 0, .int .u32 0, .int .u32 0, .int .u32 0, .string ⟨#[]⟩] 87).mods hm (fun f => f); have c0 := hb.cell (i := 0) rfl; have c1 := hb.cell (i := 1) rfl; have c2 := hb.cell (i := 2) rfl; have c3 := hb.cell (i := 3) rfl; have c4 := hb.cell (i := 4) rfl; have cf := hb.free; clear hb))
  refine bodyPost_ret (v := .tuple #[.agg #[.int .u8 66, .int .u32 99, .int .u32 0, .int .u32 0, .string ⟨#[98, 101, 113]⟩], .bool true]) (by simp [results, Tryz.results38, go_sem, c0, c1, c2, c3, c4]) rfl ⟨rfl, ?_⟩
  exact ((((((Mods.refl None W).alloc _).trans hm).setCell (fun h => absurd h (Nat.lt_irrefl _)) _).setCell (fun h => absurd h (Nat.lt_irrefl _)) _).setCell (fun h => absurd h (Nat.lt_irrefl _)) _).setCell (fun h => absurd h (Nat.lt_irrefl _)) _ |>.setCell (fun h => absurd h (Nat.lt_irrefl _)) _
set_option maxRecDepth 100000 in
theorem form_26 : FormSaid 26 true := by
  intro W
  have e : formAgg 26 = .agg #[.int .u8 66, .int .u32 99, .int .u32 1, .int .u32 0, .string ⟨#[98, 110, 101]⟩] := by kernel_rfl
  rw [e]
  clear e
  go_enter Tryz.func38, Tryz.ntmps38
  go_wp2_with (first | (go_at_call 76; refine (clo_b _ _ _).mono ?_; rintro e w1 ⟨rfl, hm⟩; have hb := (Blk.new W #[.int .u8 0, .int .u32 0, .int .u32 0, .int .u32 0, .string ⟨#[]⟩] 87).mods hm (fun f => f); have c0 := hb.cell (i := 0) rfl; have c1 := hb.cell (i := 1) rfl; have c2 := hb.cell (i := 2) rfl; have c3 := hb.cell (i := 3) rfl; have c4 := hb.cell (i := 4) rfl; have cf := hb.free; clear hb))
  refine bodyPost_ret (v := .tuple #[.agg #[.int .u8 66, .int .u32 99, .int .u32 1, .int .u32 0, .string ⟨#[98, 110, 101]⟩], .bool true]) (by simp [results, Tryz.results38, go_sem, c0, c1, c2, c3, c4]) rfl ⟨rfl, ?_⟩
  exact ((((((Mods.refl None W).alloc _).trans hm).setCell (fun h => absurd h (Nat.lt_irrefl _)) _).setCell (fun h => absurd h (Nat.lt_irrefl _)) _).setCell (fun h => absurd h (Nat.lt_irrefl _)) _).setCell (fun h => absurd h (Nat.lt_irrefl _)) _ |>.setCell (fun h => absurd h (Nat.lt_irrefl _)) _
set_option maxRecDepth 100000 in
theorem form_27 : FormSaid 27 true := by
  intro W
  have e : formAgg 27 = .agg #[.int .u8 66, .int .u32 99, .int .u32 4, .int .u32 0, .string ⟨#[98, 108, 116]⟩] := by kernel_rfl
  rw [e]
  clear e
  go_enter Tryz.func38, Tryz.ntmps38
  go_wp2_with (first | (go_at_call 76; refine (clo_b _ _ _).mono ?_; rintro e w1 ⟨rfl, hm⟩; have hb := (Blk.new W #[.int .u8 0, .int .u32 0, .int .u32 0, .int .u32 0, .string ⟨#[]⟩] 87).mods hm (fun f => f); have c0 := hb.cell (i := 0) rfl; have c1 := hb.cell (i := 1) rfl; have c2 := hb.cell (i := 2) rfl; have c3 := hb.cell (i := 3) rfl; have c4 := hb.cell (i := 4) rfl; have cf := hb.free; clear hb))
  refine bodyPost_ret (v := .tuple #[.agg #[.int .u8 66, .int .u32 99, .int .u32 4, .int .u32 0, .string ⟨#[98, 108, 116]⟩], .bool true]) (by simp [results, Tryz.results38, go_sem, c0, c1, c2, c3, c4]) rfl ⟨rfl, ?_⟩
  exact ((((((Mods.refl None W).alloc _).trans hm).setCell (fun h => absurd h (Nat.lt_irrefl _)) _).setCell (fun h => absurd h (Nat.lt_irrefl _)) _).setCell (fun h => absurd h (Nat.lt_irrefl _)) _).setCell (fun h => absurd h (Nat.lt_irrefl _)) _ |>.setCell (fun h => absurd h (Nat.lt_irrefl _)) _
set_option maxRecDepth 100000 in
theorem form_28 : FormSaid 28 true := by
  intro W
  have e : formAgg 28 = .agg #[.int .u8 66, .int .u32 99, .int .u32 5, .int .u32 0, .string ⟨#[98, 103, 101]⟩] := by kernel_rfl
  rw [e]
  clear e
  go_enter Tryz.func38, Tryz.ntmps38
  go_wp2_with (first | (go_at_call 76; refine (clo_b _ _ _).mono ?_; rintro e w1 ⟨rfl, hm⟩; have hb := (Blk.new W #[.int .u8 0, .int .u32 0, .int .u32 0, .int .u32 0, .string ⟨#[]⟩] 87).mods hm (fun f => f); have c0 := hb.cell (i := 0) rfl; have c1 := hb.cell (i := 1) rfl; have c2 := hb.cell (i := 2) rfl; have c3 := hb.cell (i := 3) rfl; have c4 := hb.cell (i := 4) rfl; have cf := hb.free; clear hb))
  refine bodyPost_ret (v := .tuple #[.agg #[.int .u8 66, .int .u32 99, .int .u32 5, .int .u32 0, .string ⟨#[98, 103, 101]⟩], .bool true]) (by simp [results, Tryz.results38, go_sem, c0, c1, c2, c3, c4]) rfl ⟨rfl, ?_⟩
  exact ((((((Mods.refl None W).alloc _).trans hm).setCell (fun h => absurd h (Nat.lt_irrefl _)) _).setCell (fun h => absurd h (Nat.lt_irrefl _)) _).setCell (fun h => absurd h (Nat.lt_irrefl _)) _).setCell (fun h => absurd h (Nat.lt_irrefl _)) _ |>.setCell (fun h => absurd h (Nat.lt_irrefl _)) _
set_option maxRecDepth 100000 in
theorem form_29 : FormSaid 29 true := by
  intro W
  have e : formAgg 29 = .agg #[.int .u8 85, .int .u32 55, .int .u32 0, .int .u32 0, .string ⟨#[108, 117, 105]⟩] := by kernel_rfl
  rw [e]
  clear e
  go_enter Tryz.func38, Tryz.ntmps38
  go_wp2_with (fail)
  refine bodyPost_ret (v := .tuple #[.agg #[.int .u8 85, .int .u32 55, .int .u32 0, .int .u32 0, .string ⟨#[108, 117, 105]⟩], .bool true]) (by simp [results, Tryz.results38, go_sem]) rfl ⟨rfl, ?_⟩
  repeat (first | with_reducible exact Mods.refl _ _ | with_reducible refine Mods.alloc ?_ _)
set_option maxRecDepth 100000 in
theorem form_30 : FormSaid 30 true := by
  intro W
  have e : formAgg 30 = .agg #[.int .u8 74, .int .u32 111, .int .u32 0, .int .u32 0, .string ⟨#[106, 97, 108]⟩] := by kernel_rfl
  rw [e]
  clear e
  go_enter Tryz.func38, Tryz.ntmps38
  go_wp2_with (fail)
  refine bodyPost_ret (v := .tuple #[.agg #[.int .u8 74, .int .u32 111, .int .u32 0, .int .u32 0, .string ⟨#[106, 97, 108]⟩], .bool true]) (by simp [results, Tryz.results38, go_sem]) rfl ⟨rfl, ?_⟩
  repeat (first | with_reducible exact Mods.refl _ _ | with_reducible refine Mods.alloc ?_ _)
set_option maxRecDepth 100000 in
theorem form_31 : FormSaid 31 true := by
  intro W
  have e : formAgg 31 = .agg #[.int .u8 69, .int .u32 115, .int .u32 0, .int .u32 0, .string ⟨#[101, 99, 97, 108, 108]⟩] := by kernel_rfl
  rw [e]
  clear e
  go_enter Tryz.func38, Tryz.ntmps38
  go_wp2_with (fail)
  refine bodyPost_ret (v := .tuple #[.agg #[.int .u8 69, .int .u32 115, .int .u32 0, .int .u32 0, .string ⟨#[101, 99, 97, 108, 108]⟩], .bool true]) (by simp [results, Tryz.results38, go_sem]) rfl ⟨rfl, ?_⟩
  repeat (first | with_reducible exact Mods.refl _ _ | with_reducible refine Mods.alloc ?_ _)
set_option maxRecDepth 100000 in
set_option maxHeartbeats 1000000 in
theorem form_no (op : Int) (h : op < 1 ∨ 31 < op) (W : World) : Calls Tryz.prog 38 #[.int .i64 op] W fun e W' => e = .returned (.tuple #[.agg #[.int .u8 0, .int .u32 0, .int .u32 0, .int .u32 0, .string ⟨#[]⟩], .bool false]) ∧ Mods None W W' := by
  have h1 : (op == 1) = false := by simp; omega
  have h2 : (op == 2) = false := by simp; omega
  have h3 : (op == 3) = false := by simp; omega
  have h4 : (op == 4) = false := by simp; omega
  have h5 : (op == 5) = false := by simp; omega
  have h6 : (op == 6) = false := by simp; omega
  have h7 : (op == 7) = false := by simp; omega
  have h8 : (op == 8) = false := by simp; omega
  have h9 : (op == 9) = false := by simp; omega
  have h10 : (op == 10) = false := by simp; omega
  have h11 : (op == 11) = false := by simp; omega
  have h12 : (op == 12) = false := by simp; omega
  have h13 : (op == 13) = false := by simp; omega
  have h14 : (op == 14) = false := by simp; omega
  have h15 : (op == 15) = false := by simp; omega
  have h16 : (op == 16) = false := by simp; omega
  have h17 : (op == 17) = false := by simp; omega
  have h18 : (op == 18) = false := by simp; omega
  have h19 : (op == 19) = false := by simp; omega
  have h20 : (op == 20) = false := by simp; omega
  have h21 : (op == 21) = false := by simp; omega
  have h22 : (op == 22) = false := by simp; omega
  have h23 : (op == 23) = false := by simp; omega
  have h24 : (op == 24) = false := by simp; omega
  have h25 : (op == 25) = false := by simp; omega
  have h26 : (op == 26) = false := by simp; omega
  have h27 : (op == 27) = false := by simp; omega
  have h28 : (op == 28) = false := by simp; omega
  have h29 : (op == 29) = false := by simp; omega
  have h30 : (op == 30) = false := by simp; omega
  have h31 : (op == 31) = false := by simp; omega
  clear h
  go_enter Tryz.func38, Tryz.ntmps38
  go_wp2
  refine bodyPost_ret (v := .tuple #[.agg #[.int .u8 0, .int .u32 0, .int .u32 0, .int .u32 0, .string ⟨#[]⟩], .bool false]) (by simp [results, Tryz.results38, go_sem]) rfl ⟨rfl, ?_⟩
  repeat (first | with_reducible exact Mods.refl _ _ | with_reducible refine Mods.alloc ?_ _)
theorem form_yes (op : Int) (h1 : 1 ≤ op) (h2 : op ≤ 31) : FormSaid op true := by
  have h : op = 1 ∨ op = 2 ∨ op = 3 ∨ op = 4 ∨ op = 5 ∨ op = 6 ∨ op = 7 ∨ op = 8 ∨ op = 9 ∨ op = 10 ∨ op = 11 ∨ op = 12 ∨ op = 13 ∨ op = 14 ∨ op = 15 ∨ op = 16 ∨ op = 17 ∨ op = 18 ∨ op = 19 ∨ op = 20 ∨ op = 21 ∨ op = 22 ∨ op = 23 ∨ op = 24 ∨ op = 25 ∨ op = 26 ∨ op = 27 ∨ op = 28 ∨ op = 29 ∨ op = 30 ∨ op = 31 := by omega
  rcases h with rfl | rfl | rfl | rfl | rfl | rfl | rfl | rfl | rfl | rfl | rfl | rfl | rfl | rfl | rfl | rfl | rfl | rfl | rfl | rfl | rfl | rfl | rfl | rfl | rfl | rfl | rfl | rfl | rfl | rfl | rfl
  · exact form_1
  · exact form_2
  · exact form_3
  · exact form_4
  · exact form_5
  · exact form_6
  · exact form_7
  · exact form_8
  · exact form_9
  · exact form_10
  · exact form_11
  · exact form_12
  · exact form_13
  · exact form_14
  · exact form_15
  · exact form_16
  · exact form_17
  · exact form_18
  · exact form_19
  · exact form_20
  · exact form_21
  · exact form_22
  · exact form_23
  · exact form_24
  · exact form_25
  · exact form_26
  · exact form_27
  · exact form_28
  · exact form_29
  · exact form_30
  · exact form_31
end Go.Proofs.YtodgkbcgdbhpeaaGreatDoor.RefP
