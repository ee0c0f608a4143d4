/- The document's steps: how they end; what the law holds against one another. Printed by mkrsend.py. Conditions: the steps lie. -/
import Derived.Test.YtoajcbfejplfbaaDoorRsCod
import Derived.Test.YtoajcbfejplfbaaDoorRsRc
import Derived.Test.YtoajcbfejplfbaaDoorMidRn
namespace Go.Proofs.YtoajcbfejplfbaaDoor.MidP.R
open Go.RowKit Go.Proofs.YtoajcbfejplfbaaDoor.Wo Go.Maps Go.Proofs.YtoajcbfejplfbaaDoor.TreeP Go.Proofs.YtoajcbfejplfbaaDoor.MidP
set_option linter.unusedVariables false
set_option linter.unusedSimpArgs false
theorem blk_put {W : World} {g : Nat} {cs : List Value} {t : TypeId} (h : Blk W g cs t) (i : Nat) (v : Value) {ds : List Value} (he : cs.set i v = ds) : Blk (W.setCell ⟨g, i, none⟩ v) g ds t := he ▸ h.set i v
theorem end_ret {W w : World} {tmps : Array Value} {n a : Int} {oa : Option Addr} {on oc : Nat} {Q : Ending → World → Prop} (h2 : tmps.getD 4 undef = .pointer (some ⟨W.heap.size, 0, none⟩)) (hB : Blk w W.heap.size [.int .i64 n, .int .i64 a, .slice oa on oc] 39) (hQ : Q (.returned (.agg #[.int .i64 n, .int .i64 a, .slice oa on oc])) w) :
    bodyPost Tryd.prog Tryd.f35 Q .ret { tmps := tmps, defers := [] } w :=
  bodyPost_ret (results_cell_row Tryd.results35 tmps _ _ _ #[.int .i64 n, .int .i64 a, .slice oa on oc] _ _ h2 hB Tryd.underlying39 rfl (by kernel_rfl)) rfl hQ
theorem run_ret {W w : World} {tmps : Array Value} {n a : Int} {oa : Option Addr} {on oc : Nat} {Q : Ending → World → Prop} (h2 : tmps.getD 6 undef = .pointer (some ⟨W.heap.size, 0, none⟩)) (hB : Blk w W.heap.size [.int .i64 n, .int .i64 a, .slice oa on oc] 39) (hQ : Q (.returned (.agg #[.int .i64 n, .int .i64 a, .slice oa on oc])) w) :
    bodyPost Tryd.prog Tryd.f14 Q .ret { tmps := tmps, defers := [] } w :=
  bodyPost_ret (results_cell_row Tryd.results14 tmps _ _ _ #[.int .i64 n, .int .i64 a, .slice oa on oc] _ _ h2 hB Tryd.underlying39 rfl (by kernel_rfl)) rfl hQ
set_option maxRecDepth 100000 in
/-- It told its number, or had ended. -/
theorem end_any (b : Nat) (av iv : Value) (k c way n : Int) (oa : Option Addr) (on oc : Nat) (W : World) (hb : Blk W b [av, iv, .int .i64 k, .int .i64 c, .int .i64 way, .int .i64 0, .slice oa on oc] 86) :
    Calls Tryd.prog 35 #[.pointer (some ⟨b, 0, none⟩), .int .i64 n] W fun e w => e = .returned (.agg #[.int .i64 (if way = 0 then 1 else way), .int .i64 (if way = 0 then n else 0), .slice oa on oc]) ∧ Mods (· = b) W w := by
  obtain ⟨W1, hW1⟩ : ∃ W1, W1 = W.alloc (.cells #[.int .i64 0, .int .i64 0, .slice none 0 0] 39) := ⟨_, rfl⟩
  have hm1 : Mods None W W1 := by rw [hW1]; exact (Mods.refl _ _).alloc _
  have HM1 := Lib.hid hm1
  have HE : Hid (Blk W1 W.heap.size [.int .i64 0, .int .i64 0, .slice none 0 0] 39) := Lib.hid (by rw [hW1]; exact Blk.new W _ _)
  have HB := Lib.hid (hb.mods hm1 (fun f => f))
  have hlt := hb.lt
  have hne : b ≠ W.heap.size := by omega
  have c4 := HB.out.cell (i := 4) rfl
  have c5 := HB.out.cell (i := 5) rfl
  have c6 := HB.out.cell (i := 6) rfl
  have z4 := HB.out.free 4
  have z5 := HB.out.free 5
  have e0 := HE.out.cell (i := 0) rfl
  have e1 := HE.out.cell (i := 1) rfl
  have e2 := HE.out.cell (i := 2) rfl
  have y0 := HE.out.free 0
  have y1 := HE.out.free 1
  have y2 := HE.out.free 2
  have HNE := Lib.hid hne
  clear hb hm1
  by_cases hw : way = 0
  · subst hw
    simp only [if_pos]
    go_enter Tryd.func35, Tryd.ntmps35
    go_upto_region 1 with (fail)
    rw [← hW1]
    clear hW1
    go_wp2_with fail
    refine end_ret rfl (blk_put (blk_put (blk_put (HE.out.mods ((mods_put W1 b 4 (.int .i64 1)).trans (mods_put _ b 5 (.int .i64 n))) (fun e => HNE.out e.symm)) 0 (.int .i64 1) rfl) 1 (.int .i64 n) rfl) 2 (.slice oa on oc) rfl) ⟨rfl, ?_⟩
    exact (HM1.out.mono (T := (· = b)) fun _ _ f => f.elim).trans' ((((mods_put W1 b 4 (.int .i64 1)).trans (mods_put _ b 5 (.int .i64 n))).mono (T := fun k => k = b ∨ k = W.heap.size) fun _ _ h => Or.inl h).trans ((((mods_put _ W.heap.size 0 _).trans (mods_put _ W.heap.size 1 _)).trans (mods_put _ W.heap.size 2 _)).mono fun _ _ h => Or.inr h)) (fun k hk hlt => hk.elim id (fun e => absurd e (by omega)))
  · have hw1 : (way == 0) = false := by simpa using hw
    simp only [if_neg hw]
    have HW := Lib.hid hw
    clear hw
    go_enter Tryd.func35, Tryd.ntmps35
    go_upto_region 1 with (fail)
    rw [← hW1]
    clear hW1
    go_wp2_with fail
    refine end_ret rfl (blk_put (blk_put (blk_put HE.out 0 (.int .i64 way) rfl) 1 (.int .i64 0) rfl) 2 (.slice oa on oc) rfl) ⟨rfl, ?_⟩
    exact (HM1.out.trans' (((mods_put _ W.heap.size 0 _).trans (mods_put _ W.heap.size 1 _)).trans (mods_put _ W.heap.size 2 _)) (fun k hk hlt => by omega)).mono fun _ _ f => f.elim
/-- What is told at the end. -/
theorem endv_of {w w' : World} {b : Nat} {M : Nat → Prop} {S : Nat → Prop} {out : List Int} {oa : Option Addr} {oc : Nat} {a c : Int} (h : w.ownsRow 0 2 1 (.slice oa out.length oc) out.length (out.map (.int .i64))) (hS : ∀ k, (Value.slice oa out.length oc).ownBlock = some k → ¬ S k) (hm : Mods S w w') (hl : out.length ≤ 200) : EndV w' (a, c, out) (.agg #[.int .i64 a, .int .i64 c, .slice oa out.length oc]) := by
  have h2 := hm.ownsRow h (fun k hk hs => hS k hk hs)
  exact ⟨oa, oc, rfl, in_of_row h2 (fun _ _ f => f), hl, own_none h2⟩
/-- How steps begin. -/
theorem begin_at {U W3 : World} {given : List Int} {fuel : Int} {iv : Value} (hW3 : W3 = ((U.alloc (.cells #[.slice none 0 0] 23)).alloc (.cells #[.slice (some ⟨U.heap.size, 0, none⟩) 1 1, iv, .int .i64 fuel, .int .i64 0, .int .i64 0, .int .i64 0, .slice none 0 0] 86)))
    (hi : MidP.InAt U None iv given) (hf : fuel ≤ 3000) (hf2 : -9223372036854775808 ≤ fuel) : WAt W3 (U.heap.size + 1) (fun k => k < U.heap.size) (fun k => k = U.heap.size ∨ k = U.heap.size + 1) [] ⟨given, fuel.toNat, 0, [], []⟩ := by
  have e1 : (U.alloc (.cells #[.slice none 0 0] 23)).heap.size = U.heap.size + 1 := by simp
  have hm : Mods None U W3 := by rw [hW3]; exact ((Mods.refl _ _).alloc _).alloc _
  have hs3 : W3.heap.size = U.heap.size + 2 := by rw [hW3]; simp
  have hb : Blk W3 (U.heap.size + 1) [.slice (some ⟨U.heap.size, 0, none⟩) 1 1, iv, .int .i64 fuel, .int .i64 0, .int .i64 0, .int .i64 0, .slice none 0 0] 86 := by
    have := Blk.new (U.alloc (.cells #[.slice none 0 0] 23)) #[.slice (some ⟨U.heap.size, 0, none⟩) 1 1, iv, .int .i64 fuel, .int .i64 0, .int .i64 0, .int .i64 0, .slice none 0 0] 86
    rw [e1, ← hW3] at this
    exact this
  have hrow : W3.ownsRow 0 23 1 (.slice (some ⟨U.heap.size, 0, none⟩) 1 1) 1 [.slice none 0 0] := by
    have h1 := World.ownsRow_lit (base := 0) (e := 23) (size := 1) U #[.slice none 0 0] 1 (Nat.zero_le _) (by decide) rfl
    have h2 := h1.alloc (.cells #[.slice (some ⟨U.heap.size, 0, none⟩) 1 1, iv, .int .i64 fuel, .int .i64 0, .int .i64 0, .int .i64 0, .slice none 0 0] 86)
    rw [← hW3] at h2
    exact h2
  have hmine1 : Mine (fun k => k = U.heap.size ∨ k = U.heap.size + 1) (U.heap.size + 1) [] (.slice none 0 0) := fun k hk => by cases hk
  have hmine2 : Mine (fun k => k = U.heap.size ∨ k = U.heap.size + 1) (U.heap.size + 1) [] (.slice (some ⟨U.heap.size, 0, none⟩) 1 1) := fun k hk => by
    obtain rfl : U.heap.size = k := by simpa [Value.ownBlock] using hk
    exact ⟨Or.inl rfl, by omega, fun g n h => by cases h⟩
  exact { blk := (⟨_, iv, fuel, .slice none 0 0, hb, ⟨rfl, hf2, by omega⟩, hi.mods hm (fun k h1 h2 => (h2 h1).elim), World.ownsRow_nil _ _ _ _, hmine1, hrow, hmine2, fun k hk h => by cases h⟩),
          has := (Or.inr rfl),
          arrs := (rfl),
          arr := (fun i l h => by simp at h),
          mine := (fun g n h => by cases h),
          apart := (List.Pairwise.nil),
          old := (fun k hk => by rcases hk with rfl | rfl <;> omega),
          off := (fun k hk h => by have h : k < U.heap.size := h; rcases hk with rfl | rfl <;> omega),
          given := (fun k hk => by rw [hs3]; exact Nat.lt_add_right 2 hk),
          few := (Nat.zero_le _),
          calls := (Nat.zero_le _) }
set_option maxRecDepth 100000 in
set_option maxHeartbeats 400000 in
theorem same_ints (v1 v2 : Value) (l : List Int) (W : World) (h1 : MidP.InAt W None v1 l) (h2 : MidP.InAt W None v2 l) (hl : l.length ≤ 65536) :
    Calls Tryd.prog 32 #[v1, v2] W fun e W' => e = .returned (.bool true) ∧ Mods None W W' := by
  obtain ⟨a1, n1, c1, rfl, hn1, hc1, hm1, hx1⟩ := h1
  obtain ⟨a2, n2, c2, rfl, hn2, hc2, hm2, hx2⟩ := h2
  obtain rfl : n1 = n2 := by omega
  have HN := Lib.hid hn1
  have H1 := Lib.hid hx1
  have H2 := Lib.hid hx2
  have hb : n1 ≤ 65536 := by omega
  try unfold maxLen at hm1 hm2
  clear hn1 hn2 hx1 hx2 hl
  go_enter Tryd.func32, Tryd.ntmps32
  go_wp2
  go_loopw [5] (fun v wr => ∃ i : Nat, i ≤ n1 ∧ v = .int .i64 i ∧ Hid (Mods None W wr)) (fun v _ => (n1 - intOf v).toNat)
  case atStart => exact ⟨0, Nat.zero_le _, rfl, Lib.hid (Mods.refl _ _)⟩
  case round =>
    obtain ⟨i, hi, rfl, hm⟩ := hrel
    by_cases hlt : i < n1
    · obtain ⟨x, hx⟩ : ∃ x, l[i]? = some x := ⟨l[i]'(by rw [← HN.out]; exact hlt), List.getElem?_eq_getElem _⟩
      obtain ⟨g1, o1, he1, hs1, hc1⟩ := H1.out i x hx
      obtain ⟨g2, o2, he2, hs2, hc2⟩ := H2.out i x hx
      have d1 := hm.out.cellOf hc1 (fun f => f)
      have d2 := hm.out.cellOf hc2 (fun f => f)
      subst he1 he2
      clear hc1 hc2 hx hs1 hs2
      go_wp2
      go_region
      go_wp2
      go_roundw
      case rel => exact ⟨i + 1, by omega, by go_num, Lib.hid hm.out.drew⟩
      case measure => simp [intOf]; omega
    · obtain rfl : i = n1 := by omega
      go_wp2
      go_ret
      exact ⟨rfl, hm.out⟩
set_option maxRecDepth 100000 in
set_option maxHeartbeats 400000 in
theorem same_end (a c : Int) (p1 p2 : Option Addr) (m1 m2 c1 c2 : Nat) (l : List Int) (W : World) (h1 : MidP.InAt W None (.slice p1 m1 c1) l) (h2 : MidP.InAt W None (.slice p2 m2 c2) l) (hl : l.length ≤ 65536) :
    Calls Tryd.prog 12 #[.agg #[.int .i64 a, .int .i64 c, .slice p1 m1 c1], .agg #[.int .i64 a, .int .i64 c, .slice p2 m2 c2]] W fun e W' => e = .returned (.bool true) ∧ Mods None W W' := by
  have H1 := Lib.hid h1
  have H2 := Lib.hid h2
  have HL := Lib.hid hl
  clear h1 h2 hl
  go_enter Tryd.func12, Tryd.ntmps12
  go_wp2_with fail
  have hm : Mods None W ((W.alloc (.cells #[.int .i64 a, .int .i64 c, .slice p1 m1 c1] 39)).alloc (.cells #[.int .i64 a, .int .i64 c, .slice p2 m2 c2] 39)) := ((Mods.refl _ _).alloc _).alloc _
  refine (same_ints _ _ l _ (H1.out.mods hm (fun _ _ f => f)) (H2.out.mods hm (fun _ _ f => f)) HL.out).mono ?_
  rintro e w1 ⟨rfl, hm1⟩
  have HM := Lib.hid (hm.trans hm1)
  clear hm hm1
  go_wp2
  go_ret
  exact ⟨rfl, HM.out⟩
theorem cd_zero (L : List Fm) : CdC L 0 := by
  intro g vs b base P M A s la ln lc W lv r h hfm hrs hvs hgl hfn hfew hr
  simp only [callM] at hr
  cases hr
theorem cd_good {L : List Fm} (hL : RcNums L) (f : Nat) : CdC L f := by
  have : ∀ f k, k ≤ f → CdC L k := by
    intro f
    induction f with
    | zero => intro k hk; obtain rfl : k = 0 := by omega
              exact cd_zero L
    | succ f ih =>
      intro k hk
      by_cases h : k ≤ f
      · exact ih k h
      · obtain rfl : k = f + 1 := by omega
        exact cd_any hL ih
  exact this f f (Nat.le_refl _)
theorem rc_nums {L : List Fm} (hc : codeB L = true) (hok : ∀ f ∈ L, FmOk f) (ha : ∀ f ∈ L, ∀ s ∈ f.steps, s.args.length ≤ 20) : RcNums L := by
  have hL : OkM L := ⟨hc, fun f hf s hs => ((hok f hf).steps s hs).nums.2.2.2.2.2.1⟩
  refine ⟨hL, fun f hf => ?_, fun f hf s hs => ⟨((hok f hf).steps s hs).texts.2, Nat.le_trans (ha f hf s hs) (by decide)⟩⟩
  have := hL.fn hf
  unfold fnB at this
  simp only [Bool.and_eq_true, decide_eq_true_eq] at this
  exact ⟨this.1.1.1.1.2, this.1.1.1.1.1.1⟩
set_option maxRecDepth 100000 in
set_option maxHeartbeats 1600000 in
theorem rcode_any {L : List Fm} (hrc : RcOk L) (hok : ∀ f ∈ L, FmOk f) (ha : ∀ f ∈ L, ∀ s ∈ f.steps, s.args.length ≤ 20) (f : Nat) (given : List Int) (fuel : Int) (x : Int × Int × List Int) (hx : runC L f given fuel.toNat = some x) (v iv : Value) (W : World) (hv : FmsAt W None v L) (hX : W.ShapedOpen Tryd.prog) (hi : MidP.InAt W None iv given) (hg : ∀ n ∈ given, AluP.I64 n) (hf : fuel ≤ 3000) (hf2 : -9223372036854775808 ≤ fuel) :
    Calls Tryd.prog 14 #[v, iv, .int .i64 fuel] W fun e w => ∃ u, e = .returned u ∧ EndV w x u ∧ Mods None W w := by
  obtain ⟨va, vc, rfl, -⟩ := hv.form
  obtain ⟨ia, il, ic, rfl⟩ : ∃ ia il ic, iv = .slice ia il ic := by
    obtain ⟨a, n, c, h1, -⟩ := hi
    exact ⟨a, n, c, h1⟩
  obtain ⟨W1, hW1⟩ : ∃ W1, W1 = W.alloc (.cells #[.int .i64 0, .int .i64 0, .slice none 0 0] 39) := ⟨_, rfl⟩
  have hm1 : Mods None W W1 := by rw [hW1]; exact (Mods.refl _ _).alloc _
  have hE1 : Blk W1 W.heap.size [.int .i64 0, .int .i64 0, .slice none 0 0] 39 := by rw [hW1]; exact Blk.new W _ _
  have hs1 : W1.heap.size = W.heap.size + 1 := by rw [hW1]; simp
  have hrr := rrc_any L (.slice va L.length vc) W1 (hv.mods hm1 (fun _ _ k => k)) (Mods.shaped hm1 hX) hrc
  rw [refB_eq] at hrr
  have HRR := Lib.hid hrr
  have H1 := Lib.hid (And.intro hm1 (And.intro hE1 hs1))
  have HH := Lib.hid (And.intro hv (And.intro hi (And.intro hg (And.intro hf hf2))))
  have HX := Lib.hid hx
  have HO := Lib.hid (And.intro hok ha)
  obtain ⟨vn, hvn⟩ : ∃ vn, vn = L.length := ⟨_, rfl⟩
  have HVN := Lib.hid hvn
  rw [← hvn] at HRR ⊢
  obtain ⟨c, hc⟩ : ∃ c, c = codeB L := ⟨_, rfl⟩
  rw [← hc] at HRR
  have HC := Lib.hid hc
  clear hv hi hx hm1 hE1 hs1 hrr hX hrc hok ha hg hf hf2 hvn hc
  go_enter Tryd.func14, Tryd.ntmps14
  go_upto_region 1 with (fail)
  rw [← hW1]
  clear hW1
  go_wp2_with fail
  go_at_call 10
  refine HRR.out.mono ?_
  rintro e U ⟨rfl, hmU⟩
  have HUW : Hid (Mods None W U) := Lib.hid (H1.out.1.trans hmU)
  have HEU := Lib.hid (H1.out.2.1.mods hmU (fun f => f))
  have HUS : Hid (W.heap.size + 1 ≤ U.heap.size) := Lib.hid (by have h1 := H1.out.2.2; have h2 := hmU.size; omega)
  clear hmU HRR
  cases c with
  | false =>
    have hx := HX.out
    unfold runC at hx
    rw [← HC.out, if_neg (by simp)] at hx
    obtain rfl := (Option.some.inj hx).symm
    have e0 := HEU.out.cell (i := 0) rfl
    have e1 := HEU.out.cell (i := 1) rfl
    have e2 := HEU.out.cell (i := 2) rfl
    have y0 := HEU.out.free 0
    have y1 := HEU.out.free 1
    have y2 := HEU.out.free 2
    clear hx
    go_wp2_with fail
    have hm9 : Mods (· = W.heap.size) U (((U.setCell ⟨W.heap.size, 0, none⟩ (.int .i64 9)).setCell ⟨W.heap.size, 1, none⟩ (.int .i64 0)).setCell ⟨W.heap.size, 2, none⟩ (.slice none 0 0)) := ((mods_put _ _ _ _).trans (mods_put _ _ _ _)).trans (mods_put _ _ _ _)
    refine run_ret rfl (blk_put (blk_put (blk_put HEU.out 0 (.int .i64 9) rfl) 1 (.int .i64 0) rfl) 2 (.slice none 0 0) rfl) ⟨_, rfl, ⟨none, 0, rfl, ⟨_, _, _, rfl, rfl, Nat.le_refl _, Nat.zero_le _, fun i x hx => by simp at hx⟩, Nat.zero_le _, fun _ => rfl⟩, ?_⟩
    exact HUW.out.trans' hm9 (fun k hk hlt => by omega)
  | true =>
    have hx := HX.out
    unfold runC at hx
    rw [← HC.out, if_pos rfl] at hx
    obtain ⟨W3, hW3⟩ : ∃ W3, W3 = ((U.alloc (.cells #[.slice none 0 0] 23)).alloc (.cells #[.slice (some ⟨U.heap.size, 0, none⟩) 1 1, .slice ia il ic, .int .i64 fuel, .int .i64 0, .int .i64 0, .int .i64 0, .slice none 0 0] 86)) := ⟨_, rfl⟩
    have hm3 : Mods None U W3 := by rw [hW3]; exact ((Mods.refl _ _).alloc _).alloc _
    have hs3 : W3.heap.size = U.heap.size + 2 := by rw [hW3]; simp
    have hi := HH.out.2.1.mods HUW.out (fun _ _ k => k)
    have hw := begin_at hW3 hi HH.out.2.2.2.1 HH.out.2.2.2.2
    rw [runM_eq] at hx
    obtain ⟨y, hy, hxy⟩ : ∃ y, callM L f ⟨given, fuel.toNat, 0, [], []⟩ [109, 97, 105, 110] [] = some y ∧ endOf y = x := by
      cases hy : callM L f ⟨given, fuel.toNat, 0, [], []⟩ [109, 97, 105, 110] [] with
      | none => rw [hy] at hx; cases hx
      | some y => rw [hy] at hx; exact ⟨y, rfl, Option.some.inj hx⟩
    obtain ⟨-, ⟨fn, hfn⟩, -⟩ := code_parts HC.out.symm
    have hmW3 := HUW.out.trans hm3
    have hcall := cd_good (rc_nums HC.out.symm HO.out.1 HO.out.2) f [109, 97, 105, 110] [] (U.heap.size + 1) 0 (fun k => k < U.heap.size) _ [] ⟨given, fuel.toNat, 0, [], []⟩ va L.length vc W3 (.slice none 0 0) y hw (HH.out.1.mods hmW3 (fun k h1 h2 => (h2 (Nat.lt_of_lt_of_le h1 HUW.out.size)).elim)) ⟨HH.out.2.2.1, fun l hl => by cases hl⟩ (Nms.none_ _ _ _ _) (by decide) ⟨fn, hfn, Nat.zero_le _, fun j t x _ h => by simp at h⟩ (by have := HH.out.2.2.2.1; simp only [List.length_nil]; omega) hy
    rw [← HVN.out] at hcall
    unfold str at hcall
    have HCC := Lib.hid hcall
    have HW := Lib.hid (And.intro hm3 hs3)
    have HXY := Lib.hid hxy
    have HE := Lib.hid (HEU.out.mods hm3 (fun f => f))
    clear hi hw hx hy hm3 hs3 hxy hfn hmW3 hcall
    go_upto_region 4 with (fail)
    rw [← hW3]
    clear hW3
    go_wp2_with fail
    go_at_call 36
    refine HCC.out.mono ?_
    intro e w hR
    have HF : Hid (∃ m M' av iv2 k c way oa out oc, e = .returned (.int .i64 m) ∧ Ext None (fun k => k = U.heap.size ∨ k = U.heap.size + 1) M' W3 w ∧ Blk w (U.heap.size + 1) [av, iv2, .int .i64 k, .int .i64 c, .int .i64 way, .int .i64 0, .slice oa (List.length out) oc] 86 ∧ w.ownsRow 0 2 1 (.slice oa (List.length out) oc) (List.length out) (out.map (.int .i64)) ∧ (∀ k, (Value.slice oa (List.length out) oc).ownBlock = some k → M' k ∧ k ≠ U.heap.size + 1) ∧ List.length out ≤ 200 ∧ x = (if way = 0 then 1 else way, if way = 0 then m else 0, out)) := Lib.hid (by
      have hxy := HXY.out
      obtain ⟨y, s⟩ := y
      cases y with
      | ok n =>
        obtain ⟨rfl, M', A', h1, h2, -⟩ := hR
        obtain ⟨av, iv2, k, ov, hb, -, -, h4, h5, -⟩ := h1.blk
        obtain ⟨oa, oc, rfl⟩ := sl_form h4
        exact ⟨n, M', av, iv2, k, _, 0, oa, s.out, oc, rfl, h2, hb, h4, fun k hk => ⟨(h5 k hk).1, (h5 k hk).2.1⟩, h1.few, by rw [← hxy]; rfl⟩
      | error sg =>
        cases sg with
        | ret q => exact hR.elim
        | stop q =>
          obtain ⟨m, M', rfl, h1, h2⟩ := hR
          obtain ⟨av, iv2, k, c, ov, m9, r9, hb, h4, h5, -⟩ := h1.blk
          obtain ⟨oa, oc, rfl⟩ := sl_form h4
          have hq := h1.way
          exact ⟨m, M', av, iv2, k, c, q, oa, s.out, oc, rfl, h2, hb, h4, h5, h1.few, by rw [← hxy, if_neg (by omega), if_neg (by omega)]; rfl⟩)
    obtain ⟨m, M', av, iv2, k, c, way, oa, out, oc, he, h2, hb, h4, h5, h6, h7⟩ := HF.out
    subst he
    have hne : ∀ k, M' k → k ≠ W.heap.size := fun k hk e => by
      have h1 := HW.out.2
      have h3 := HUS.out
      rcases h2.back k (by omega) hk with e2 | e2 <;> omega
    have HEW := Lib.hid (HE.out.mods h2.mods (fun k => k.elim (fun f => f.elim) (fun e => by have h3 := HUS.out; rcases e with e | e <;> omega)))
    have HK := Lib.hid (And.intro h2 (And.intro h4 (And.intro h5 (And.intro h6 (And.intro h7 hne)))))
    obtain ⟨on, hon⟩ : ∃ on, on = List.length out := ⟨_, rfl⟩
    rw [← hon] at hb
    have HON := Lib.hid hon
    have HEN := Lib.hid (end_any (U.heap.size + 1) av iv2 k c way m oa on oc w hb)
    clear hb h2 h4 h5 h6 h7 hne hR HF HCC hon HXY
    go_wp2_with fail
    go_at_call 35
    refine HEN.out.mono ?_
    rintro e w5 ⟨rfl, hm5⟩
    have HE5 := Lib.hid (HEW.out.mods hm5 (fun e => by have h3 := HUS.out; omega))
    have HM5 := Lib.hid hm5
    have e0 := HE5.out.cell (i := 0) rfl
    have e1 := HE5.out.cell (i := 1) rfl
    have e2 := HE5.out.cell (i := 2) rfl
    have y0 := HE5.out.free 0
    have y1 := HE5.out.free 1
    have y2 := HE5.out.free 2
    obtain ⟨p1, hp1⟩ : ∃ p1, p1 = (if way = 0 then (1 : Int) else way) := ⟨_, rfl⟩
    obtain ⟨p2, hp2⟩ : ∃ p2, p2 = (if way = 0 then m else (0 : Int)) := ⟨_, rfl⟩
    have HPP := Lib.hid (And.intro hp1 hp2)
    rw [← hp1, ← hp2]
    clear hm5 HEN hp1 hp2
    go_wp2_with fail
    obtain ⟨h2, h4, h5, h6, h7, hne⟩ := HK.out
    have hm9 : Mods (· = W.heap.size) w5 (((w5.setCell ⟨W.heap.size, 0, none⟩ (.int .i64 p1)).setCell ⟨W.heap.size, 1, none⟩ (.int .i64 p2)).setCell ⟨W.heap.size, 2, none⟩ (.slice oa on oc)) := ((mods_put _ _ _ _).trans (mods_put _ _ _ _)).trans (mods_put _ _ _ _)
    refine run_ret rfl (blk_put (blk_put (blk_put HE5.out 0 (.int .i64 p1) rfl) 1 (.int .i64 p2) rfl) 2 (.slice oa on oc) rfl) ⟨_, rfl, ?_, ?_⟩
    · rw [h7, ← HPP.out.1, ← HPP.out.2, HON.out]
      refine endv_of (b := 0) (M := None) (S := fun k => k = U.heap.size + 1 ∨ k = W.heap.size) h4 (fun k hk e => e.elim (h5 k hk).2 (hne k (h5 k hk).1)) ?_ h6
      rw [HON.out] at hm9
      exact (HM5.out.mono fun _ _ e => Or.inl e).trans (hm9.mono fun _ _ e => Or.inr e)
    · have h3 := HUS.out
      exact (HUW.out.trans HW.out.1).trans' (((h2.mods.mono (T := fun k => W.heap.size ≤ k) (fun k _ hk => hk.elim (fun f => f.elim) (fun e => by rcases e with e | e <;> omega))).trans (HM5.out.mono fun k _ e => by omega)).trans (hm9.mono fun k _ e => by omega)) (fun k hk hlt => by omega)
end Go.Proofs.YtoajcbfejplfbaaDoor.MidP.R
