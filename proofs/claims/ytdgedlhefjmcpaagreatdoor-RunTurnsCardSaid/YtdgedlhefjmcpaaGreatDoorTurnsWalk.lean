/- The law RunTurns walked. Conditions: the variables lie as the program lays them; the world's shape. -/
import Derived.Test.YtdgedlhefjmcpaaGreatDoorRunRight
import Derived.Test.YtdgedlhefjmcpaaGreatDoorTurnPlain
import Derived.Test.YtdgedlhefjmcpaaGreatDoorPick
import Derived.Test.YtdgedlhefjmcpaaGreatDoorTreePar
import Derived.Test.YtdgedlhefjmcpaaGreatDoorShaped
import Derived.Test.YtdgedlhefjmcpaaGreatDoorRunDeaf
import Derived.Test.YtdgedlhefjmcpaaGreatDoorRefLex
import Derived.Deep.QuietTactic
import Derived.BigQuiet
import Derived.Deep.DeepCutAuto
namespace Go.Proofs.YtdgedlhefjmcpaaGreatDoor.TreeP
open Go.RowKit Go.Proofs.YtdgedlhefjmcpaaGreatDoor.Wo
set_option linter.unusedVariables false
set_option linter.unusedSimpArgs false
theorem in_shape {W : World} {S : Nat → Prop} {v : Value} {l : List Int} (h : InAt W S v l) : ∃ a c, v = .slice a l.length c ∧ l.length ≤ c ∧ c ≤ 9223372036854775807 := by
  obtain ⟨a', n', c', e, h1, h2, h3, h4⟩ := h
  subst h1
  exact ⟨a', c', e, h2, h3⟩
theorem EndV.form {W : World} {x : Int × Int × List Int} {v : Value} (h : EndV W x v) : ∃ oa n oc, v = .agg #[.int .i64 x.1, .int .i64 x.2.1, .slice oa n oc] ∧ n = x.2.2.length ∧ n ≤ oc ∧ oc ≤ 9223372036854775807 ∧ InAt W None (.slice oa n oc) x.2.2 ∧ (oa = none → oc = 0) := by
  obtain ⟨oa, oc, h1, h2, h3, h4⟩ := h
  obtain ⟨a', n', c', e, k1, k2, k3, k4⟩ := h2
  obtain ⟨rfl, rfl, rfl⟩ := Value.slice.inj e
  exact ⟨oa, _, oc, h1, rfl, k2, k3, ⟨_, _, _, rfl, rfl, k2, k3, k4⟩, h4⟩
set_option maxRecDepth 100000 in
set_option maxHeartbeats 1000000 in
/-- Two ends that are one. -/
theorem same_end (x : Int × Int × List Int) (u v : Value) (W : World) (hu : EndV W x u) (hv : EndV W x v) :
    Calls Tryz.prog 21 #[u, v] W fun e w => e = .returned (.bool true) ∧ Mods None W w := by
  obtain ⟨xa, n, xc, rfl, hn, hx1, hx2, hxi, hx0⟩ := hu.form
  obtain ⟨ya, m, yc, rfl, hm, hy1, hy2, hyi, hy0⟩ := hv.form
  obtain rfl : n = m := by omega
  obtain ⟨x1, x2, o⟩ := x
  simp only at hxi hyi hn ⊢
  obtain ⟨W3, hW3⟩ : ∃ W3, W3 = ((W.alloc (.cells #[.int .i64 x1, .int .i64 x2, .slice xa n xc] 50)).alloc (.cells #[.int .i64 x1, .int .i64 x2, .slice ya n yc] 50)) := ⟨_, rfl⟩
  have hm3 : Mods None W W3 := by rw [hW3]; exact ((Mods.refl _ _).alloc _).alloc _
  have HM := Lib.hid hm3
  have HBX : Blk W3 W.heap.size [.int .i64 x1, .int .i64 x2, .slice xa n xc] 50 := by rw [hW3]; exact (Blk.new W _ _).alloc _
  have HBY : Blk W3 (W.heap.size + 1) [.int .i64 x1, .int .i64 x2, .slice ya n yc] 50 := by
    rw [hW3]
    have := Blk.new (W.alloc (.cells #[.int .i64 x1, .int .i64 x2, .slice xa n xc] 50)) #[.int .i64 x1, .int .i64 x2, .slice ya n yc] 50
    simpa using this
  have cx0 := HBX.cell (i := 0) rfl
  have cx1 := HBX.cell (i := 1) rfl
  have cx2 := HBX.cell (i := 2) rfl
  have cy0 := HBY.cell (i := 0) rfl
  have cy1 := HBY.cell (i := 1) rfl
  have cy2 := HBY.cell (i := 2) rfl
  have hb1 : (x1 == x1) = true := beq_self_eq_true _
  have hb2 : (x2 == x2) = true := beq_self_eq_true _
  have HQ := Lib.hid (equal_any _ _ o o W3 (hxi.mods hm3 (fun _ _ f => f)) (hyi.mods hm3 (fun _ _ f => f)))
  clear hu hv hn hm hxi hyi hm3 HBX HBY hx0 hy0
  go_enter Tryz.func21, Tryz.ntmps21
  go_upto_region 1 with (fail)
  rw [← hW3]
  clear hW3
  go_wp2_with fail
  go_at_call 24
  refine HQ.out.mono ?_
  rintro e w ⟨rfl, hm⟩
  have HM2 := Lib.hid (HM.out.trans hm)
  clear hm
  rw [beq_self_eq_true]
  go_wp2_with fail
  go_ret
  exact ⟨rfl, HM2.out⟩
def inputS : List UInt8 := [105, 110, 112, 117, 116]
theorem contains_quiet (s : List UInt8) (W : World) (hS : W.ShapedOpen Tryz.prog) (hs : s.length < 4294967281) :
    Calls Tryz.prog 22 #[.string ⟨s.toArray⟩, .string ⟨#[105, 110, 112, 117, 116]⟩] W fun e w => e = .returned (.bool (Lib.contains s inputS)) ∧ W = w :=
  (Tryz.strings_Contains_shaped ⟨s.toArray⟩ ⟨#[105, 110, 112, 117, 116]⟩ W hS (by simpa [ByteArray.size] using hs)).mono fun e w ⟨h1, h2⟩ => ⟨by rw [h1]; rfl, h2.symm⟩
/-- Who asks for nothing ends just so. -/
theorem deaf_run {s : List UInt8} {L : List Fn} (hr : ReadTo s (.ok L)) (hck : checkOk L) (hc : Lib.contains s inputS = false) {f : Nat} {g1 g2 : List Int} {n : Nat} {x : Int × Int × List Int} (hx : runR L f g1 n = some x) : runR L f g2 n = some x := by
  have hni : ¬ kInput <:+: s := by
    intro h
    rw [← contains_iff] at h
    have h2 : Lib.contains s inputS = true := h
    rw [hc] at h2
    cases h2
  refine run_deaf (fun g fn hfn => ?_) hx
  have hm := ((fnOf_mem hck.1 g fn).1 hfn).1
  rcases hr with ⟨f, n, a, _, h⟩ | ⟨f, fp, ts, y, h1, h2, h3⟩
  · cases h
  · cases y with
    | error q => cases h3
    | ok q =>
      obtain ⟨l, r⟩ := q
      simp only [dropRest, Except.ok.injEq] at h3
      subst h3
      exact program_deaf fp [] ts (noIn_lex h1 hni) (fun x hx => nomatch hx) h2 fn hm
theorem cntFs_cat : (a b : List Fn) → cntFs (a ++ b) = cntFs a + cntFs b
  | [], b => by simp [cntFs]
  | x :: a, b => by simp only [List.cons_append, cntFs, cntFs_cat a b]; omega
theorem turned_perm (k : Nat) (L : List Fn) : L.Perm (L.drop k ++ L.take k) := by
  have := (List.perm_append_comm (l₁ := L.take k) (l₂ := L.drop k))
  rw [List.take_append_drop] at this
  exact this
theorem run_turned (k : Nat) {s : List UInt8} {L : List Fn} (hr : ReadTo s (.ok L)) (hc : checkOk L) (f : Nat) (given : List Int) (fuel : Int) (x : Int × Int × List Int) (hx : runR L f given fuel.toNat = some x) (v iv : Value) (W : World) (hv : FsAt W None v (L.drop k ++ L.take k)) (hi : InAt W None iv given) (hi0 : ∀ n c, iv = .slice none n c → c = 0) (hl : given.length ≤ 1000000) (hf : fuel ≤ 4000000000000000000) (hf2 : -9223372036854775808 ≤ fuel) :
    Calls Tryz.prog 20 #[v, iv, .int .i64 fuel] W fun e w => ∃ u, e = .returned u ∧ EndV w x u ∧ Mods None W w := by
  have hp := read_prog hr
  have hm := (turned_perm k L)
  have hp2 : Prog (L.drop k ++ L.take k) := ⟨fun y hy => hp.fit y (hm.mem_iff.2 hy), by have := hm.length_eq; have := hp.few; omega, by
    have h1 := hp.cnt
    have h2 := cntFs_cat (L.take k) (L.drop k)
    rw [List.take_append_drop] at h2
    rw [cntFs_cat]
    omega⟩
  have hc2 := checkOk_turn k hc
  have hx2 : runR (L.drop k ++ L.take k) f given fuel.toNat = some x := by
    rw [← run_same (fnOf_perm hc.1 hc2.1 (fun y => hm.mem_iff))]
    exact hx
  exact run_any (good_of hp2 hc2) hc2.1 (main_of hc2) (fun y hy => name_short (hp2.fit y hy).1) (by have := hp2.few; omega) f given fuel x hx2 v iv W hv hi hi0 hl hf hf2
theorem right_long (s : List UInt8) (W : World) (h12 : 1200 < s.length) :
    Calls Tryz.prog 19 #[str s] W fun e w => (∃ a n c, e = .returned (.tuple #[.slice a n c, .bool false])) ∧ Mods None W w := by
  unfold str
  have h12i : (1200 : Int) < (s.length : Int) := by omega
  go_enter Tryz.func19, Tryz.ntmps19
  go_wp2_with fail
  go_ret2
  exact ⟨⟨_, _, _, rfl⟩, Mods.refl _ _⟩
set_option maxRecDepth 100000 in
set_option maxHeartbeats 4000000 in
theorem runTurns_walk (s : List UInt8) (iv ov : Value) (given others : List Int) (by_ : Int) (W : World) (hL : All W) (hS : W.ShapedOpen Tryz.prog) (hs : s.length ≤ 9223372036854775807) (hi : InAt W None iv given) (hi0 : ∀ n c, iv = .slice none n c → c = 0) (ho : InAt W None ov others) (ho0 : ∀ n c, ov = .slice none n c → c = 0) :
    Calls Tryz.prog 5 #[str s, iv, ov, .int .i64 by_] W fun e w => e = .returned (.bool true) ∧ Mods None W w := by
  obtain ⟨ia, ic, rfl, hic, hic2⟩ := in_shape hi
  obtain ⟨oa, oc, rfl, hoc, hoc2⟩ := in_shape ho
  by_cases h20 : 20 < given.length
  · have h20i : (20 : Int) < (given.length : Int) := by omega
    go_enter Tryz.func5, Tryz.ntmps5
    go_wp2_with fail
    go_ret
    exact ⟨rfl, Mods.refl _ _⟩
  have h20i : ¬ (20 : Int) < (given.length : Int) := by omega
  by_cases h20o : 20 < others.length
  · have h20j : (20 : Int) < (others.length : Int) := by omega
    go_enter Tryz.func5, Tryz.ntmps5
    go_wp2_with fail
    go_ret
    exact ⟨rfl, Mods.refl _ _⟩
  have h20j : ¬ (20 : Int) < (others.length : Int) := by omega
  have HF := Lib.hid (goes_yes W hL)
  have HR := Lib.hid (fun (w : World) (hm : Mods None W w) => right_any s w (hL.next hm) hs)
  have HIV := Lib.hid (And.intro (And.intro hi hi0) (And.intro ho ho0))
  have HS := Lib.hid hS
  generalize hgn : given.length = gn at *
  have HGN := Lib.hid hgn
  generalize hgo : others.length = go at *
  have HGO := Lib.hid hgo
  clear hgn hgo hi hi0 ho ho0 hL hS
  unfold str at *
  by_cases hLS : 1200 < s.length
  · have HRL := Lib.hid (fun (w : World) => right_long s w hLS)
    clear hLS HR
    unfold str at *
    go_enter Tryz.func5, Tryz.ntmps5
    go_wp2_with fail
    go_at_call 18
    refine HF.out.mono ?_
    rintro e w1 ⟨rfl, hm1⟩
    have HM1 := Lib.hid hm1
    clear hm1 HF
    go_wp2_with fail
    go_at_call 19
    refine (HRL.out _).mono ?_
    rintro e w3 ⟨⟨la, ln, lc, rfl⟩, hm2⟩
    have HM2 := Lib.hid (HM1.out.trans hm2)
    clear hm2
    go_wp2_with fail
    go_ret
    exact ⟨rfl, HM2.out⟩
  have HLS := Lib.hid hLS
  clear hLS
  go_enter Tryz.func5, Tryz.ntmps5
  go_wp2_with fail
  go_at_call 18
  refine HF.out.mono ?_
  rintro e w1 ⟨rfl, hm1⟩
  have HM1 := Lib.hid hm1
  clear hm1 HF
  go_wp2_with fail
  go_at_call 19
  refine (HR.out _ HM1.out).mono ?_
  rintro e w3 ⟨(⟨l, a2, c2, rfl, hrd, hck, hfs, hpg⟩ | ⟨la, ln, lc, rfl⟩), hm2⟩
  rotate_left
  · have HM2 := Lib.hid (HM1.out.trans hm2)
    clear hm2 HR
    go_wp2_with fail
    go_ret
    exact ⟨rfl, HM2.out⟩
  have HM3 := Lib.hid (HM1.out.trans hm2)
  have HV3 := Lib.hid hpg
  have hn12 := (read_prog hrd).few
  have h0 : ¬ l.length = 0 := by
    intro h0
    obtain ⟨x, hx, -⟩ := List.any_eq_true.1 hck.2.2
    rw [List.eq_nil_of_length_eq_zero h0] at hx
    cases hx
  obtain ⟨f1, x, hx⟩ := run_soon l given (200 : Int).toNat
  have hx := hx f1 (Nat.le_refl _)
  have hxo : Lib.contains s inputS = false → runR l f1 others (200 : Int).toNat = some x := fun h => deaf_run hrd hck h hx
  have HRX := Lib.hid (fun (v iv : Value) (w : World) (hv : FsAt w None v l) (hi : InAt w None iv given) (h0 : ∀ n c, iv = .slice none n c → c = 0) => run_good hrd hck _ given 200 _ hx v iv w hv hi h0 (by have := HGN.out; omega) (by omega) (by omega))
  have HRO := Lib.hid (fun (h : Lib.contains s inputS = false) (v iv : Value) (w : World) (hv : FsAt w None v l) (hi : InAt w None iv others) (h0 : ∀ n c, iv = .slice none n c → c = 0) => run_good hrd hck _ others 200 _ (hxo h) v iv w hv hi h0 (by have := HGO.out; omega) (by omega) (by omega))
  have HRT := Lib.hid (fun (k : Nat) (v iv : Value) (w : World) (hv : FsAt w None v (l.drop k ++ l.take k)) (hi : InAt w None iv given) (h0 : ∀ n c, iv = .slice none n c → c = 0) => run_turned k hrd hck _ given 200 _ hx v iv w hv hi h0 (by have := HGN.out; omega) (by omega) (by omega))
  obtain ⟨n, hn⟩ : ∃ n, n = l.length := ⟨_, rfl⟩
  rw [← hn] at hn12 h0 ⊢
  have HN := Lib.hid hn
  have HFS := Lib.hid hfs
  clear hn hm2 HR hfs hpg hx hxo hrd hck
  have HPK := Lib.hid (pick_any by_ n w3 (by omega) (by omega))
  obtain ⟨hk0, hk1⟩ := pkn_in by_ n (by omega)
  obtain ⟨k, hk⟩ : ∃ k : Nat, pkn by_ n = k := ⟨(pkn by_ n).toNat, by omega⟩
  rw [hk] at HPK hk0 hk1
  go_wp2_with fail
  go_at_call 13
  refine HPK.out.mono ?_
  rintro e w4 ⟨rfl, rfl⟩
  clear HPK hk
  obtain ⟨vs, hrow, hfs⟩ := HV3.out
  obtain ⟨g, c, hsl, hgw, hnc, hcm, hcells⟩ : ∃ g c, (.slice a2 n c2 : Value) = .slice (some ⟨g, 0, none⟩) n c ∧ g < w3.heap.size ∧ n ≤ c ∧ c ≤ maxLen ∧ ∀ j u, vs[j]? = some u → w3.cell? ⟨g, j, none⟩ = some u := by
    rcases hrow.1.2 with ⟨e, h00⟩ | ⟨g, cap, cur, e, _, hg, h3, h4, _⟩
    · have := HN.out; omega
    · have hc := hrow.1.cells (g := g) (by rw [e]; rfl)
      refine ⟨g, cap, by rw [HN.out]; simpa [HN.out] using e, lt_of_block hg, by rw [HN.out]; exact h3, h4, fun j u hj => by simpa [Addr.add_lit] using hc j u hj⟩
  obtain ⟨rfl, -, rfl⟩ := Value.slice.inj hsl
  have hgn : g ≠ w3.heap.size := by omega
  have hkn : k < n := by omega
  have hmx := hcm
  unfold maxLen at hmx
  obtain ⟨i0, hi, hz0, hz1, hz2⟩ := info_parts func_info
  have HI := Lib.hid (⟨hi, hz0, hz1, hz2⟩ : _ ∧ _ ∧ _ ∧ _)
  have HKN := Lib.hid (⟨hkn, hn12⟩ : _ ∧ _)
  have hlv := hfs.len
  obtain ⟨hfs1, hfs2⟩ := hfs.split k (by rw [← HN.out]; omega)
  have HFQ := Lib.hid (⟨hfs1, hfs2, hfs, hlv⟩ : _ ∧ _ ∧ _ ∧ _)
  have HCE := Lib.hid (fun (w : World) (hm : Mods None w3 w) (j : Nat) (u : Value) (hj : vs[j]? = some u) => (hm.cellOf (hcells j u hj) (fun f => f) : w.cell? ⟨g, j, none⟩ = some u))
  have HNW1 := Lib.hid (fun (w : World) (hm : Mods None w3 w) (j : Nat) (u : Value) (hj : (vs.drop (4 * k))[j]? = some u) => (by
    rw [List.getElem?_drop] at hj
    have := HCE.out w hm _ u hj
    rw [show 4 * k + j = k * 4 + j by omega] at this
    simpa [Addr.add_lit] using this : w.cell? ((⟨g, k * 4, none⟩ : Addr).add j) = some u))
  have HNW2 := Lib.hid (fun (w : World) (hm : Mods None w3 w) (j : Nat) (u : Value) (hj : (vs.take (4 * k))[j]? = some u) => (by
    rw [List.getElem?_take] at hj
    split at hj
    · have := HCE.out w hm _ u hj
      simpa [Addr.add_lit] using this
    · exact (nomatch hj) : w.cell? ((⟨g, 0, none⟩ : Addr).add j) = some u))
  have HON1 : Hid (∀ u ∈ vs.drop (4 * k), u.oneCell' = true) := Lib.hid hfs2.one
  have HON2 : Hid (∀ u ∈ vs.take (4 * k), u.oneCell' = true) := Lib.hid hfs1.one
  have HL1 : Hid ((vs.drop (4 * k)).length = (n - k) * 4 ∧ (vs.take (4 * k)).length = k * 4) := Lib.hid (by
    rw [List.length_drop, List.length_take, hlv, ← HN.out]
    omega)
  clear hi hz0 hz1 hz2 hfs hlv hfs1 hfs2 hcells hrow
  have hkle : k ≤ n := by omega
  have hkc : k ≤ c2 := by omega
  have hckn : ¬ c2 = k := by omega
  go_wp2_with fail
  go_region_law (first | (refine step_append_at rfl (.tmp 35) (.tmp 38) 23 rfl w3.heap.size 33 i0 _ 4 72 Tryz.underlying23 HI.out.1 HI.out.2.1 HI.out.2.2.1 HI.out.2.2.2 rfl (by decide) (.slice (some ⟨w3.heap.size, 0, none⟩) 0 0) 0 [] (by simp [Act.eval, Act.put]) ⟨rfl, Or.inr ⟨w3.heap.size, 0, #[], rfl, Nat.le_refl _, heap_alloc_new w3 _, Nat.le_refl _, by decide, rfl, rfl⟩⟩ ⟨g, k * 4, none⟩ (n - k) (c2 - k) (vs.drop (4 * k)) (by simp [Act.eval, Act.put]) HL1.out.1 (fun j u hj => HNW1.out _ ((Mods.refl None w3).alloc _) j u hj) HON1.out (by have := HKN.out; unfold maxLen; omega) (by have := HKN.out; omega) (by simp) ?_; intro v5 w5 hown hgrow hloc; have HOW := Lib.hid hown; have HM5 : Hid (Mods None w3 w5) := Lib.hid (((Mods.refl None w3).alloc (.cells #[] 33)).drew.trans' (Mods.of_grownBy (S := (· = w3.heap.size)) hgrow (fun q hq _ => (Option.some.inj hq).symm)) (by rintro q rfl hq; omega)); clear hown hgrow hloc) | (refine step_append_at rfl (.tmp 39) (.tmp 42) 23 rfl w3.heap.size 33 i0 _ 4 72 Tryz.underlying23 HI.out.1 HI.out.2.1 HI.out.2.2.1 HI.out.2.2.2 rfl (by decide) v5 (0 + (n - k)) _ (by simp [Act.eval, Act.put]) HOW.out ⟨g, 0, none⟩ k c2 (vs.take (4 * k)) (by simp [Act.eval, Act.put]) HL1.out.2 (fun j u hj => HNW2.out _ HM5.out j u hj) HON2.out (by have := HKN.out; unfold maxLen; omega) (by have := HKN.out; omega) HM5.out.size ?_; intro v6 w6 hown hgrow hloc; have HOW6 := Lib.hid hown; have HM6 : Hid (Mods None w3 w6) := Lib.hid (HM5.out.trans' (Mods.of_grownBy (S := fun q => v5.ownBlock = some q) hgrow (fun q hq _ => hq)) (fun q hq hk => by have := (HOW.out.lt q hq).1; omega)); clear hown hgrow hloc))
  all_goals
    have hfs6 : FnsAt w6 None (l.drop k ++ l.take k) ([] ++ vs.drop (4 * k) ++ vs.take (4 * k)) := FnsAt.join (FnsAt.modsTo HM6.out (fun _ _ k => k) _ _ HFQ.out.2.1) (FnsAt.modsTo HM6.out (fun _ _ k => k) _ _ HFQ.out.1)
    have hrow6 := HOW6.out
    rw [show 0 + (n - k) + k = (l.drop k ++ l.take k).length by have := HKN.out; rw [List.length_append, List.length_drop, List.length_take, ← HN.out]; omega] at hrow6
    have HV6 := Lib.hid (fs_of_row hrow6 hfs6 (fun _ _ f => f))
    have hfs0 := HFS.out
    rw [← HN.out] at hfs0
    have HF6 := Lib.hid (hfs0.mods HM6.out (fun _ _ f => f))
    have HM36 := Lib.hid (HM3.out.trans HM6.out)
    clear hfs6 hrow6 hfs0 HOW HM5 HON1 HON2 HNW1 HNW2 HL1 HOW6 HFQ HCE HV3 HFS HM3 HM1 HM6 HI HKN hkle hkc hckn hgn hgw hnc hcm hmx
    go_wp2_with fail
    go_at_call 20
    refine (HRX.out _ _ _ HF6.out (HIV.out.1.1.mods HM36.out (fun _ _ f => f)) HIV.out.1.2).mono ?_
    rintro e w7 ⟨u, rfl, hu, hm7⟩
    have HU7 := Lib.hid hu
    obtain ⟨xa, xn, xc, rfl, -, hxc1, hxc2, -, -⟩ := hu.form
    have HM7 := Lib.hid (HM36.out.trans hm7)
    have HM67 := Lib.hid hm7
    obtain ⟨x1, x2, o⟩ := x
    simp only at HU7 hu ⊢
    clear hu hm7
    obtain ⟨WB, hWB⟩ : ∃ WB, WB = w7.alloc (.cells #[.int .i64 x1, .int .i64 x2, .slice xa xn xc] 50) := ⟨_, rfl⟩
    have hb := Blk.new w7 #[.int .i64 x1, .int .i64 x2, .slice xa xn xc] 50
    rw [← hWB] at hb
    have hm7b : Mods None w7 WB := by rw [hWB]; exact (Mods.refl _ _).alloc _
    have HU := Lib.hid (HU7.out.mods hm7b)
    have HMB := Lib.hid (HM7.out.trans hm7b)
    have HM6B := Lib.hid (HM67.out.trans hm7b)
    have c0 := hb.cell (i := 0) rfl
    have c1 := hb.cell (i := 1) rfl
    have c2' := hb.cell (i := 2) rfl
    clear hb hm7b HU7 HM7 HM67
    go_wp2_with fail
    rw [← hWB]
    clear hWB
    go_region_held3 (fun w' => Hid (Mods None WB w') ∧ w'.cell? ⟨w7.heap.size, 0, none⟩ = some (.int .i64 x1) ∧ w'.cell? ⟨w7.heap.size, 1, none⟩ = some (.int .i64 x2) ∧ w'.cell? ⟨w7.heap.size, 2, none⟩ = some (.slice xa xn xc))
      (first
        | exact ⟨Lib.hid (Mods.refl _ _).drew, c0, c1, c2'⟩
        | assumption
        | (go_split_ands; exact ⟨Lib.hid (Mods.trans (Hid.out ‹_›) hmr), hmr.cellOf ‹_› (fun f => f), hmr.cellOf ‹_› (fun f => f), hmr.cellOf ‹_› (fun f => f)⟩)
        | (go_split_ands; exact ⟨Lib.hid (Mods.trans (Hid.out ‹_›) hms), hms.cellOf ‹_› (fun f => f), hms.cellOf ‹_› (fun f => f), hms.cellOf ‹_› (fun f => f)⟩))
      ((first
        | (go_at_call 20; go_split_ands; refine (HRT.out k _ _ _ (HV6.out.mods (HM6B.out.trans (Hid.out ‹Hid (Mods None WB _)›)) (fun _ _ f => f)) (HIV.out.1.1.mods (HMB.out.trans (Hid.out ‹Hid (Mods None WB _)›)) (fun _ _ f => f)) HIV.out.1.2).mono ?_; rintro e wr ⟨u2, rfl, hu2, hmr⟩)
        | (go_at_call 21; go_split_ands; refine (same_end (x1, x2, o) _ _ _ (hu2.mods (by first | exact Mods.refl _ _ | exact (Mods.refl _ _).drew)) (HU.out.mods (Hid.out ‹Hid (Mods None WB _)›))).mono ?_; rintro e ws ⟨rfl, hms⟩)))
    go_split_ands
    have HMS : Hid (Mods None WB ws) := ‹Hid (Mods None WB ws)›
    have d0 := ‹ws.cell? ⟨w7.heap.size, 0, none⟩ = some (.int .i64 x1)›
    have d1 := ‹ws.cell? ⟨w7.heap.size, 1, none⟩ = some (.int .i64 x2)›
    have d2 := ‹ws.cell? ⟨w7.heap.size, 2, none⟩ = some (.slice xa xn xc)›
    have HMT := Lib.hid (HMB.out.trans HMS.out)
    have HSH := Lib.hid (HMT.out.shaped HS.out)
    have HU2 := Lib.hid (HU.out.mods HMS.out)
    have HF2 := Lib.hid (HF6.out.mods (HM6B.out.trans HMS.out) (fun _ _ f => f))
    have HIO := Lib.hid (HIV.out.2.1.mods HMT.out (fun _ _ f => f))
    clear hu2 hmr hms c0 c1 c2'
    go_wp2_with fail
    cases hcn : Lib.contains s inputS
    · have HCT := Lib.hid (fun (w : World) (hm : Mods None ws w) => (hcn ▸ contains_quiet s w (hm.shaped HSH.out) (by have := HLS.out; omega) : Calls Tryz.prog 22 #[.string ⟨s.toArray⟩, .string ⟨#[105, 110, 112, 117, 116]⟩] w fun e w' => e = .returned (.bool false) ∧ w = w'))
      have HRO2 := Lib.hid (HRO.out hcn)
      clear hcn
      go_region_held3 (fun w' => Hid (Mods None ws w') ∧ w'.cell? ⟨w7.heap.size, 0, none⟩ = some (.int .i64 x1) ∧ w'.cell? ⟨w7.heap.size, 1, none⟩ = some (.int .i64 x2) ∧ w'.cell? ⟨w7.heap.size, 2, none⟩ = some (.slice xa xn xc))
        (first
          | exact ⟨Lib.hid (Mods.refl _ _).drew, d0, d1, d2⟩
          | assumption
          | (go_split_ands; exact ⟨Lib.hid (Mods.trans (Hid.out ‹_›) hmr), hmr.cellOf ‹_› (fun f => f), hmr.cellOf ‹_› (fun f => f), hmr.cellOf ‹_› (fun f => f)⟩)
          | (go_split_ands; exact ⟨Lib.hid (Mods.trans (Hid.out ‹_›) hms), hms.cellOf ‹_› (fun f => f), hms.cellOf ‹_› (fun f => f), hms.cellOf ‹_› (fun f => f)⟩))
        ((first
          | (go_at_call 22; go_split_ands; refine (HCT.out _ (Hid.out ‹Hid (Mods None ws _)›)).mono ?_; rintro e wq ⟨rfl, rfl⟩)
          | (go_at_call 20; go_split_ands; refine (HRO2.out _ _ _ (HF2.out.mods (Hid.out ‹Hid (Mods None ws _)›) (fun _ _ f => f)) (HIO.out.mods (Hid.out ‹Hid (Mods None ws _)›) (fun _ _ f => f)) HIV.out.2.2).mono ?_; rintro e wr ⟨u2, rfl, hu2, hmr⟩)
          | (go_at_call 21; go_split_ands; refine (same_end (x1, x2, o) _ _ _ (hu2.mods (by first | exact Mods.refl _ _ | exact (Mods.refl _ _).drew)) (HU2.out.mods (Hid.out ‹Hid (Mods None ws _)›))).mono ?_; rintro e wz ⟨rfl, hms⟩)))
      go_split_ands
      have HME : Hid (Mods None ws wz) := ‹Hid (Mods None ws wz)›
      clear hu2 hmr hms d0 d1 d2
      go_wp2
      go_ret
      exact ⟨rfl, HMT.out.trans HME.out⟩
    · have HCT := Lib.hid (fun (m : Nat) => (contains_quiet s (ws.drewN m) (((Mods.refl None ws).drewN m).shaped HSH.out) (by have := HLS.out; omega)).mono fun (e : Ending) (w : World) ⟨h1, h2⟩ => (⟨by rw [h1, hcn], m, h2.symm⟩ : e = Ending.returned (.bool true) ∧ ∃ q, w = ws.drewN q))
      clear hcn
      go_quiet ((go_at_call 22; exact HCT.out _))
      go_wp2
      go_ret
      exact ⟨rfl, HMT.out.drewN _⟩
end Go.Proofs.YtdgedlhefjmcpaaGreatDoor.TreeP
