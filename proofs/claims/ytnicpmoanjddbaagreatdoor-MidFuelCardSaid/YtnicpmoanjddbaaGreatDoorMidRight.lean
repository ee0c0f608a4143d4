/- Which steps may be a program: the walk. Conditions: what it reads lies. -/
import Derived.Test.YtnicpmoanjddbaaGreatDoorMidIdx
import Derived.Deep.QuietTactic
import Derived.BigQuiet
import Derived.Deep.DeepCutAuto
import Derived.Deep.RegionWith
namespace Go.Proofs.YtnicpmoanjddbaaGreatDoor.MidP
open Go.RowKit Go.Proofs.YtnicpmoanjddbaaGreatDoor.Wo Go.Maps Go.Proofs.YtnicpmoanjddbaaGreatDoor.TreeP
set_option linter.unusedVariables false
set_option linter.unusedSimpArgs false
/-- The type of a place. -/
theorem kind_any (f : Fm) (p : Int) (q tc : Nat) (ta : Option Addr) (S : Nat → Prop) (W : World) (hq : W.cell? ⟨q, 2, none⟩ = some (.slice ta f.types.length tc)) (hT : IntsAt W S (.slice ta f.types.length tc) f.types) :
    Calls Tryz.prog 86 #[.int .i64 p, .pointer (some ⟨q, 0, none⟩)] W fun e w => e = .returned (.int .i64 (kindP f p)) ∧ W = w := by
  obtain ⟨_, _, hf, hl, hm, -⟩ := hT.form
  obtain ⟨-, -, rfl⟩ := Value.slice.inj hf
  by_cases h0 : p < 0
  · have hk : kindP f p = -1 := by unfold kindP; rw [if_pos (Or.inl h0)]
    rw [hk]
    clear hk hT hf hl hm
    go_enter Tryz.func86, Tryz.ntmps86
    go_wp2
    go_ret
    exact ⟨rfl, rfl⟩
  · obtain ⟨k, rfl⟩ : ∃ k : Nat, p = k := ⟨p.toNat, by omega⟩
    by_cases h1 : k < f.types.length
    · have hk : kindP f k = f.types[k] := by
        unfold kindP
        rw [if_neg (by omega), Int.toNat_natCast, List.getD_eq_getElem?_getD, List.getElem?_eq_getElem h1]
        rfl
      obtain ⟨g, o, rfl, hc⟩ := hT.get h1
      rw [hk]
      have h2 : (k : Int) < f.types.length := by omega
      clear hk hT hf h0
      generalize f.types[k] = t at hc ⊢
      clear h1
      generalize f.types.length = n at *
      go_enter Tryz.func86, Tryz.ntmps86
      go_wp2
      go_ret
      exact ⟨rfl, rfl⟩
    · have hk : kindP f k = -1 := by unfold kindP; rw [if_pos (Or.inr (by omega))]
      rw [hk]
      have h2 : (f.types.length : Int) ≤ k := by omega
      clear hk hT hf hl hm
      generalize f.types.length = n at *
      go_enter Tryz.func86, Tryz.ntmps86
      go_wp2
      go_ret
      exact ⟨rfl, rfl⟩
theorem kind_quiet (f : Fm) (p : Int) (q tc : Nat) (ta : Option Addr) (S : Nat → Prop) (W : World) (hq : W.cell? ⟨q, 2, none⟩ = some (.slice ta f.types.length tc)) (hT : IntsAt W S (.slice ta f.types.length tc) f.types) (n : Nat) :
    Calls Tryz.prog 86 #[.int .i64 p, .pointer (some ⟨q, 0, none⟩)] (W.drewN n) fun e w => e = .returned (.int .i64 (kindP f p)) ∧ ∃ m, w = W.drewN m :=
  (kind_any f p q tc ta S (W.drewN n) hq (hT.mods ((Mods.refl S W).drewN n) (fun _ _ k => k))).mono fun e w ⟨h1, h2⟩ => ⟨h1, n, h2.symm⟩
/-- What a step is asked in: the function at q, the step behind it. -/
structure Ask (W W3 : World) (f : Fm) (s : Stp) (q : Nat) (ta sa aa : Option Addr) (tc sc ac : Nat) : Prop where
  mods : Mods None W W3
  fn : Blk W3 q [str f.name, .int .i64 f.params, .slice ta f.types.length tc, .slice sa f.steps.length sc] 55
  st : Blk W3 (q + 1) (stpL s (.slice aa s.args.length ac)) 57
theorem Ask.new (W : World) (f : Fm) (s : Stp) (ta sa aa : Option Addr) (tc sc ac : Nat) :
    Ask W ((W.alloc (.cells #[str f.name, .int .i64 f.params, .slice ta f.types.length tc, .slice sa f.steps.length sc] 55)).alloc (.cells (stpL s (.slice aa s.args.length ac)).toArray 57)) f s W.heap.size ta sa aa tc sc ac := by
  refine ⟨((Mods.refl _ _).alloc _).alloc _, (Blk.new W _ _).alloc _, ?_⟩
  have := Blk.new (W.alloc (.cells #[str f.name, .int .i64 f.params, .slice ta f.types.length tc, .slice sa f.steps.length sc] 55)) (stpL s (.slice aa s.args.length ac)).toArray 57
  rw [show (W.alloc (.cells #[str f.name, .int .i64 f.params, .slice ta f.types.length tc, .slice sa f.steps.length sc] 55)).heap.size = W.heap.size + 1 by simp] at this
  simpa using this
set_option maxRecDepth 100000 in
set_option maxHeartbeats 1000000 in
theorem right_copy (L : List Fm) (f : Fm) (s : Stp) (cb bm : Nat) (ta sa aa : Option Addr) (tc sc ac : Nat) (W : World) (hc : s.code = 2)
    (hT : IntsAt W None (.slice ta f.types.length tc) f.types) :
    Calls Tryz.prog 58 #[.pointer (some ⟨cb, 0, none⟩), .agg #[str f.name, .int .i64 f.params, .slice ta f.types.length tc, .slice sa f.steps.length sc], .agg (stpL s (.slice aa s.args.length ac)).toArray, .map (some bm)] W fun e w => e = .returned (.bool (rightB L f s)) ∧ Mods None W w := by
  have hr : rightB L f s = (decide (kindP f s.dst > 0) && kindP f s.dst == kindP f s.a) := by
    unfold rightB
    rw [if_pos hc]
  rw [hr]
  obtain ⟨W3, hW3⟩ : ∃ W3, W3 = ((W.alloc (.cells #[str f.name, .int .i64 f.params, .slice ta f.types.length tc, .slice sa f.steps.length sc] 55)).alloc (.cells (stpL s (.slice aa s.args.length ac)).toArray 57)) := ⟨_, rfl⟩
  have hmf : ∀ (fn : Go.Fn) (first cap : Array Value) (w : World), (Instr.makeFunc fn first cap).run Tryz.prog w = .ok (.func fn first cap) w := fun _ _ _ _ => rfl
  have HA : Ask W W3 f s W.heap.size ta sa aa tc sc ac := by rw [hW3]; exact Ask.new W f s ta sa aa tc sc ac
  have hT3 := hT.mods HA.mods (fun _ _ k => k)
  have HK := Lib.hid (fun (p : Int) (n : Nat) => kind_quiet f p W.heap.size tc ta None W3 (HA.fn.cell rfl) hT3 n)
  have s0 := HA.st.cell (i := 0) rfl
  have s1 := HA.st.cell (i := 1) rfl
  have s2 := HA.st.cell (i := 2) rfl
  rw [hc] at s0
  have HM := Lib.hid HA.mods
  clear HA hT hT3 hr hc
  unfold stpL str at *
  go_enter Tryz.func58, Tryz.ntmps58
  go_upto_region 1 with (fail)
  rw [← hW3]
  clear hW3
  by_cases hk : 0 < kindP f s.dst
  rotate_left
  · have hk2 : decide (0 < kindP f s.dst) = false := by simpa using hk
    go_wp2_with fail
    go_quiet ((go_at_call 86; exact HK.out _ _))
    go_wp2_with fail
    go_ret
    exact ⟨by simp [hk2], HM.out.drewN _⟩
  · go_wp2_with fail
    go_quiet ((go_at_call 86; exact HK.out _ _))
    go_wp2_with fail
    go_ret
    exact ⟨by simp [hk], HM.out.drewN _⟩
set_option maxRecDepth 100000 in
theorem eq_call (g : Fm) (nm : List UInt8) (q : Nat) (w : World) (fv : Value) (hq : w.cell? ⟨q, 8, none⟩ = some (str nm)) (hv : FmV w None g fv) :
    Calls Tryz.prog 87 #[fv, .pointer (some ⟨q, 0, none⟩)] w fun e w' => e = .returned (.bool (g.name == nm)) ∧ Mods None w w' := by
  obtain ⟨ta, tc, sa, sc, rfl, -, -⟩ := hv
  have hlt : q < w.heap.size := World.block_lt_of_cell? w _ hq
  have hne : q ≠ w.heap.size := by omega
  unfold str at *
  go_enter Tryz.func87, Tryz.ntmps87
  go_wp2
  go_ret
  exact ⟨by simp, (Mods.refl _ _).alloc _⟩
/-- Functions whose parameters have places. -/
def Heads (L : List Fm) : Prop := ∀ g ∈ L, 0 ≤ g.params ∧ g.params ≤ g.types.length
theorem find_idx {α : Type} (l : List α) (p : α → Bool) : l.find? p = (l.findIdx? p).bind fun i => l[i]? := by
  induction l with
  | nil => rfl
  | cons a r ih =>
    rw [List.find?_cons, List.findIdx?_cons]
    split
    · rename_i h; rw [h]; rfl
    · rename_i h
      rw [h, ih]
      cases r.findIdx? p with
      | none => rfl
      | some i => simp
theorem map_take {f : Int → Int} {l t : List Int} {n : Nat} (hn : l.length = n) (ht : n ≤ t.length) : (l.map f == t.take n) = true ↔ ∀ i, i < n → ∀ x, l[i]? = some x → f x = t.getD i 0 := by
  rw [beq_iff_eq]
  constructor
  · intro h i hi x hx
    have h1 : (l.map f)[i]? = some (f x) := by rw [List.getElem?_map, hx]; rfl
    rw [h, List.getElem?_take_of_lt hi] at h1
    rw [List.getD_eq_getElem?_getD, h1]
    rfl
  · intro h
    apply List.ext_getElem?
    intro i
    by_cases hi : i < n
    · rw [List.getElem?_map, List.getElem?_take_of_lt hi]
      have hl : i < l.length := by omega
      rw [List.getElem?_eq_getElem hl, List.getElem?_eq_getElem (by omega : i < t.length)]
      have := h i hi _ (List.getElem?_eq_getElem hl)
      rw [Option.map_some, this, List.getD_eq_getElem?_getD, List.getElem?_eq_getElem (by omega : i < t.length)]
      rfl
    · rw [List.getElem?_eq_none (by rw [List.length_map]; omega), List.getElem?_eq_none (by rw [List.length_take]; omega)]
theorem rightB_none {L : List Fm} {f : Fm} {s : Stp} (hc : s.code = 7) (h : L.findIdx? (fun g => g.name == s.name) = none) : rightB L f s = false := by
  unfold rightB
  rw [if_neg (by omega), if_pos hc, find_idx, h]
  rfl
theorem rightB_some {L : List Fm} {f : Fm} {s : Stp} (hc : s.code = 7) {k : Nat} {G : Fm} (hk : L[k]? = some G) (h : L.findIdx? (fun g => g.name == s.name) = some k) : rightB L f s = (decide ((s.args.length : Int) = G.params) && kindP f s.dst == 1 && (s.args.map (kindP f)) == G.types.take s.args.length) := by
  unfold rightB
  rw [if_neg (by omega), if_pos hc, find_idx, h, Option.bind_some, hk]
set_option maxRecDepth 100000 in
set_option maxHeartbeats 1000000 in
theorem right_call_no (L : List Fm) (f : Fm) (s : Stp) (cb bm : Nat) (lv : Value) (ta sa aa : Option Addr) (tc sc ac : Nat) (W : World) (hc : s.code = 7)
    (hcb : W.cell? ⟨cb, 0, none⟩ = some lv) (hL : FmsAt W None lv L) (hH : Heads L)
    (hT : IntsAt W None (.slice ta f.types.length tc) f.types) (hA : IntsAt W None (.slice aa s.args.length ac) s.args) (hno : ∀ k G, L[k]? = some G → L.findIdx? (fun g => g.name == s.name) = some k → ¬ kindP f s.dst = 1) :
    Calls Tryz.prog 58 #[.pointer (some ⟨cb, 0, none⟩), .agg #[str f.name, .int .i64 f.params, .slice ta f.types.length tc, .slice sa f.steps.length sc], .agg (stpL s (.slice aa s.args.length ac)).toArray, .map (some bm)] W fun e w => e = .returned (.bool (rightB L f s)) ∧ Mods None W w := by
  obtain ⟨xa, xc, rfl, hxc, hxm, hx0⟩ := hL.form
  obtain ⟨W3, hW3⟩ : ∃ W3, W3 = ((W.alloc (.cells #[str f.name, .int .i64 f.params, .slice ta f.types.length tc, .slice sa f.steps.length sc] 55)).alloc (.cells (stpL s (.slice aa s.args.length ac)).toArray 57)) := ⟨_, rfl⟩
  have hmf : ∀ (fn : Go.Fn) (first cap : Array Value) (w : World), (Instr.makeFunc fn first cap).run Tryz.prog w = .ok (.func fn first cap) w := fun _ _ _ _ => rfl
  have HA : Ask W W3 f s W.heap.size ta sa aa tc sc ac := by rw [hW3]; exact Ask.new W f s ta sa aa tc sc ac
  have hT3 := hT.mods HA.mods (fun _ _ k => k)
  have hA3 := hA.mods HA.mods (fun _ _ k => k)
  obtain ⟨_, _, haf, hn1, hn2, -⟩ := hA.form
  obtain ⟨-, -, rfl⟩ := Value.slice.inj haf
  have hL3 := hL.mods HA.mods (fun _ _ k => k)
  have hcb3 : W3.cell? ⟨cb, 0, none⟩ = some (.slice xa L.length xc) := HA.mods.cellOf hcb (fun k => k)
  have s0 := HA.st.cell (i := 0) rfl
  have s1 := HA.st.cell (i := 1) rfl
  have s8 := HA.st.cell (i := 8) rfl
  have s9 := HA.st.cell (i := 9) rfl
  rw [hc] at s0
  have HI := Lib.hid (index_call L (.slice xa L.length xc) (W.heap.size + 1) (fun g => g.name == s.name) W3 hL3 (fun i hi w fv hm hv => eq_call L[i] s.name _ w fv (hm.cellOf s8 (fun k => k)) hv))
  have HK := Lib.hid (fun (w : World) (hm : Mods None W3 w) (p : Int) (n : Nat) => kind_quiet f p W.heap.size tc ta None w (hm.cellOf (HA.fn.cell rfl) (fun k => k)) (hT3.mods hm (fun _ _ k => k)) n)
  have HM := Lib.hid HA.mods
  have HLL := Lib.hid (And.intro hL3 hA3)
  have HS := Lib.hid (And.intro hcb3 (And.intro s1 s9))
  have hr0 : Hid (L.findIdx? (fun g => g.name == s.name) = none → rightB L f s = false) := Lib.hid (rightB_none hc)
  have hrS : Hid (∀ k G, L[k]? = some G → L.findIdx? (fun g => g.name == s.name) = some k → rightB L f s = (decide ((s.args.length : Int) = G.params) && kindP f s.dst == 1 && (s.args.map (kindP f)) == G.types.take s.args.length)) := Lib.hid (fun k G h => rightB_some hc h)
  have HX : Hid (∀ k, L.findIdx? (fun g => g.name == s.name) = some k → k < L.length) := Lib.hid (fun k hk => (List.findIdx?_eq_some_iff_getElem.1 hk).1)
  have HH := Lib.hid hH
  have HNO := Lib.hid hno
  clear hno HA hT hT3 hc hL hA hA3 hL3 hH hcb s8
  generalize L.findIdx? (fun g => g.name == s.name) = ok at *
  generalize hnn : s.args.length = n at *
  have HNN := Lib.hid hnn
  clear hnn
  generalize hLn : L.length = ln at *
  have HLN := Lib.hid hLn
  clear hLn
  unfold stpL str at *
  go_enter Tryz.func58, Tryz.ntmps58
  go_upto_region 1 with (fail)
  rw [← hW3]
  clear hW3
  go_wp2_with fail
  go_at_call 53
  refine HI.out.mono ?_
  rintro e w1 ⟨rfl, hm1⟩
  have HM1 := Lib.hid hm1
  have hcb1 := hm1.cellOf hcb3 (fun k => k)
  have hs1 := hm1.cellOf s1 (fun k => k)
  have hs9 := hm1.cellOf s9 (fun k => k)
  have HKK := Lib.hid (HK.out w1 hm1)
  clear hm1 hcb3 s0 s1 s9 HI
  cases ok with
  | none =>
    simp only [optI]
    go_wp2_with fail
    go_quiet (fail)
    go_wp2_with fail
    go_ret
    rw [hr0.out trivial]
    exact ⟨rfl, (HM.out.trans HM1.out).drewN _⟩
  | some k =>
    have hkn := HX.out k rfl
    have hkl : k < L.length := by rw [HLN.out]; exact hkn
    simp only [optI]
    obtain ⟨hL1, hA1⟩ := HLL.out
    obtain ⟨g, o, ga, gc, ha, hcc, rfl, c0, c1, c2, c3, hgT, hgS⟩ := (hL1.mods HM1.out (fun _ _ k => k)).get (by rw [HLN.out]; exact hkn)
    have hpar := HH.out L[k] (List.getElem_mem hkl)
    have hnod := HNO.out k _ (List.getElem?_eq_getElem hkl) rfl
    have HR := Lib.hid (hrS.out k _ (List.getElem?_eq_getElem hkl) rfl)
    have hmt0 := fun (h : s.args.length = n) (h2 : n ≤ L[k].types.length) => map_take (f := kindP f) h h2
    generalize L[k] = G at *
    obtain ⟨hp0, hp1⟩ := hpar
    have hk0 : decide ((k : Int) < 0) = false := by simp
    have hki : (k : Int) < (ln : Int) := by omega
    clear hrS hr0 HX HLL HH HLN
    by_cases hpn : (n : Int) = G.params
    · have hb : ((n : Int) != G.params) = false := by simpa using hpn
      have hnt : n ≤ G.types.length := by omega
      have hmt := Lib.hid (hmt0 HNN.out hnt)
      rw [← hpn] at c1
      have hb2 : ((n : Int) != n) = false := by simp
      have HG : Hid (rightB L f s = (kindP f s.dst == 1 && (s.args.map (kindP f) == G.types.take n))) := Lib.hid (by rw [HR.out, hpn]; simp)
      clear hpn hb HR hmt0
      have hd1 : ¬ kindP f s.dst = 1 := hnod
      clear hnod
      have hd : (kindP f s.dst != 1) = true := by simpa using hd1
      go_wp2_with fail
      go_quiet ((go_at_call 86; exact HKK.out _ _))
      go_wp2_with fail
      go_ret
      rw [HG.out]
      exact ⟨by simp [hd1], (HM.out.trans HM1.out).drewN _⟩
    · have hb : ((n : Int) != G.params) = true := by simpa using hpn
      go_wp2_with fail
      go_quiet (fail)
      go_wp2_with fail
      go_ret
      rw [HR.out]
      exact ⟨by simp [hpn], (HM.out.trans HM1.out).drewN _⟩
set_option maxRecDepth 100000 in
set_option maxHeartbeats 1000000 in
theorem right_call_yes (L : List Fm) (f : Fm) (s : Stp) (cb bm : Nat) (lv : Value) (ta sa aa : Option Addr) (tc sc ac : Nat) (W : World) (hc : s.code = 7)
    (hcb : W.cell? ⟨cb, 0, none⟩ = some lv) (hL : FmsAt W None lv L) (hH : Heads L)
    (hT : IntsAt W None (.slice ta f.types.length tc) f.types) (hA : IntsAt W None (.slice aa s.args.length ac) s.args) (k : Nat) (hke : L.findIdx? (fun g => g.name == s.name) = some k) (hd1 : kindP f s.dst = 1) :
    Calls Tryz.prog 58 #[.pointer (some ⟨cb, 0, none⟩), .agg #[str f.name, .int .i64 f.params, .slice ta f.types.length tc, .slice sa f.steps.length sc], .agg (stpL s (.slice aa s.args.length ac)).toArray, .map (some bm)] W fun e w => e = .returned (.bool (rightB L f s)) ∧ Mods None W w := by
  obtain ⟨xa, xc, rfl, hxc, hxm, hx0⟩ := hL.form
  obtain ⟨W3, hW3⟩ : ∃ W3, W3 = ((W.alloc (.cells #[str f.name, .int .i64 f.params, .slice ta f.types.length tc, .slice sa f.steps.length sc] 55)).alloc (.cells (stpL s (.slice aa s.args.length ac)).toArray 57)) := ⟨_, rfl⟩
  have hmf : ∀ (fn : Go.Fn) (first cap : Array Value) (w : World), (Instr.makeFunc fn first cap).run Tryz.prog w = .ok (.func fn first cap) w := fun _ _ _ _ => rfl
  have HA : Ask W W3 f s W.heap.size ta sa aa tc sc ac := by rw [hW3]; exact Ask.new W f s ta sa aa tc sc ac
  have hT3 := hT.mods HA.mods (fun _ _ k => k)
  have hA3 := hA.mods HA.mods (fun _ _ k => k)
  obtain ⟨_, _, haf, hn1, hn2, -⟩ := hA.form
  obtain ⟨-, -, rfl⟩ := Value.slice.inj haf
  have hL3 := hL.mods HA.mods (fun _ _ k => k)
  have hcb3 : W3.cell? ⟨cb, 0, none⟩ = some (.slice xa L.length xc) := HA.mods.cellOf hcb (fun k => k)
  have s0 := HA.st.cell (i := 0) rfl
  have s1 := HA.st.cell (i := 1) rfl
  have s8 := HA.st.cell (i := 8) rfl
  have s9 := HA.st.cell (i := 9) rfl
  rw [hc] at s0
  have HI := Lib.hid (index_call L (.slice xa L.length xc) (W.heap.size + 1) (fun g => g.name == s.name) W3 hL3 (fun i hi w fv hm hv => eq_call L[i] s.name _ w fv (hm.cellOf s8 (fun k => k)) hv))
  have HK := Lib.hid (fun (w : World) (hm : Mods None W3 w) (p : Int) (n : Nat) => kind_quiet f p W.heap.size tc ta None w (hm.cellOf (HA.fn.cell rfl) (fun k => k)) (hT3.mods hm (fun _ _ k => k)) n)
  have HM := Lib.hid HA.mods
  have HLL := Lib.hid (And.intro hL3 hA3)
  have HS := Lib.hid (And.intro hcb3 (And.intro s1 s9))
  have hr0 : Hid (L.findIdx? (fun g => g.name == s.name) = none → rightB L f s = false) := Lib.hid (rightB_none hc)
  have hrS : Hid (∀ k G, L[k]? = some G → L.findIdx? (fun g => g.name == s.name) = some k → rightB L f s = (decide ((s.args.length : Int) = G.params) && kindP f s.dst == 1 && (s.args.map (kindP f)) == G.types.take s.args.length)) := Lib.hid (fun k G h => rightB_some hc h)
  have HX : Hid (∀ k, L.findIdx? (fun g => g.name == s.name) = some k → k < L.length) := Lib.hid (fun k hk => (List.findIdx?_eq_some_iff_getElem.1 hk).1)
  have HH := Lib.hid hH
  clear HA hT hT3 hc hL hA hA3 hL3 hH hcb s8
  rw [hke] at HI hr0 hrS HX
  clear hke
  generalize hnn : s.args.length = n at *
  have HNN := Lib.hid hnn
  clear hnn
  generalize hLn : L.length = ln at *
  have HLN := Lib.hid hLn
  clear hLn
  unfold stpL str at *
  go_enter Tryz.func58, Tryz.ntmps58
  go_upto_region 1 with (fail)
  rw [← hW3]
  clear hW3
  go_wp2_with fail
  go_at_call 53
  refine HI.out.mono ?_
  rintro e w1 ⟨rfl, hm1⟩
  have HM1 := Lib.hid hm1
  have hcb1 := hm1.cellOf hcb3 (fun k => k)
  have hs1 := hm1.cellOf s1 (fun k => k)
  have hs9 := hm1.cellOf s9 (fun k => k)
  have HKK := Lib.hid (HK.out w1 hm1)
  clear hm1 hcb3 s0 s1 s9 HI
  have hkn := HX.out k rfl
  have hkl : k < L.length := by rw [HLN.out]; exact hkn
  simp only [optI]
  obtain ⟨hL1, hA1⟩ := HLL.out
  obtain ⟨g, o, ga, gc, ha, hcc, rfl, c0, c1, c2, c3, hgT, hgS⟩ := (hL1.mods HM1.out (fun _ _ k => k)).get (by rw [HLN.out]; exact hkn)
  have hpar := HH.out L[k] (List.getElem_mem hkl)
  have HR := Lib.hid (hrS.out k _ (List.getElem?_eq_getElem hkl) rfl)
  have hmt0 := fun (h : s.args.length = n) (h2 : n ≤ L[k].types.length) => map_take (f := kindP f) h h2
  generalize L[k] = G at *
  obtain ⟨hp0, hp1⟩ := hpar
  have hk0 : decide ((k : Int) < 0) = false := by simp
  have hki : (k : Int) < (ln : Int) := by omega
  clear hrS hr0 HX HLL HH HLN
  by_cases hpn : (n : Int) = G.params
  · have hb : ((n : Int) != G.params) = false := by simpa using hpn
    have hnt : n ≤ G.types.length := by omega
    have hmt := Lib.hid (hmt0 HNN.out hnt)
    rw [← hpn] at c1
    have hb2 : ((n : Int) != n) = false := by simp
    have HG : Hid (rightB L f s = (kindP f s.dst == 1 && (s.args.map (kindP f) == G.types.take n))) := Lib.hid (by rw [HR.out, hpn]; simp)
    clear hpn hb HR hmt0
    have hd : (kindP f s.dst != 1) = false := by simpa using hd1
    have HG2 : Hid (rightB L f s = (s.args.map (kindP f) == G.types.take n)) := Lib.hid (by rw [HG.out, hd1]; rfl)
    clear hd1 HG
    go_wp2_with fail
    go_quiet ((go_at_call 86; exact HKK.out _ _))
    go_wp2_with fail
    have HA1 := Lib.hid (hA1.mods HM1.out (fun _ _ k => k))
    have HGT := Lib.hid hgT
    have HC := Lib.hid (And.intro hcb1 (And.intro hs9 c2))
    clear hgT hgS hA1 hL1 HS c0 c1 c3 hs1
    have HMW : Hid (Mods None w1 (w1.drewN nq)) := Lib.hid ((Mods.refl _ _).drewN _)
    generalize w1.drewN nq = w2 at *
    go_loopw [11, 12, 72] (fun _ _ iv wr => ∃ i : Nat, i ≤ n ∧ iv = .int .i64 i ∧ Hid (∀ j, j < i → ∀ x, s.args[j]? = some x → kindP f x = G.types.getD j 0) ∧ Hid (Mods None w1 wr)) (fun _ _ iv _ => (n - intOf iv).toNat)
    case atStart => exact ⟨0, Nat.zero_le _, rfl, Lib.hid (fun j hj => absurd hj (by omega)), HMW⟩
    case round =>
      obtain ⟨i, hi, rfl, HJ, HW⟩ := hrel
      by_cases hlt : i < n
      · have hil : i < s.args.length := by rw [HNN.out]; exact hlt
        have hit : i < G.types.length := by omega
        obtain ⟨ag, ao, rfl, hac⟩ := (HA1.out.mods HW.out (fun _ _ k => k)).get hil
        obtain ⟨tg, tt, rfl, htc⟩ := (HGT.out.mods HW.out (fun _ _ k => k)).get hit
        have hii : (i : Int) < (n : Int) := by omega
        have hti : (i : Int) < (G.types.length : Int) := by omega
        have HGI : Hid (s.args[i]? = some s.args[i] ∧ G.types.getD i 0 = G.types[i]) := Lib.hid ⟨List.getElem?_eq_getElem hil, by rw [List.getD_eq_getElem?_getD, List.getElem?_eq_getElem hit]; rfl⟩
        have HK2 := Lib.hid (HK.out wr (HM1.out.trans HW.out))
        generalize s.args[i] = x at *
        generalize G.types[i] = y at *
        obtain ⟨h1, h2, h3⟩ := HC.out
        have h1 := HW.out.cellOf h1 (fun k => k)
        have h3 := HW.out.cellOf h3 (fun k => k)
        by_cases hx : kindP f x = y
        · have hxb : (kindP f x != y) = false := by simpa using hx
          have HJ2 : Hid (∀ j, j < i + 1 → ∀ x, s.args[j]? = some x → kindP f x = G.types.getD j 0) := Lib.hid (fun j hj z hz => by
            by_cases hji : j = i
            · subst hji
              have e := HGI.out.1.symm.trans hz
              simp only [Option.some.injEq] at e
              rw [← e, hx, HGI.out.2]
            · exact HJ.out j (by omega) z hz)
          clear hx
          go_wp2_with fail
          go_quiet ((go_at_call 86; exact HK2.out _ _))
          go_wp2_with fail
          exact ⟨⟨i + 1, by omega, by go_num, HJ2, Lib.hid (HW.out.drewN _)⟩, by simp [intOf]; omega⟩
        · have hxb : (kindP f x != y) = true := by simpa using hx
          have HG3 : Hid (rightB L f s = false) := Lib.hid (by
            rw [HG2.out, Bool.eq_false_iff]
            intro h
            exact hx ((hmt.out.1 h i hlt x HGI.out.1).trans HGI.out.2))
          clear hx
          go_wp2_with fail
          go_quiet ((go_at_call 86; exact HK2.out _ _))
          go_wp2_with fail
          go_ret
          rw [HG3.out]
          exact ⟨rfl, (HM.out.trans (HM1.out.trans HW.out)).drewN _⟩
      · obtain rfl : i = n := by omega
        have HG3 : Hid (rightB L f s = true) := Lib.hid (by
          rw [HG2.out]
          exact hmt.out.2 HJ.out)
        go_wp2_with fail
        go_ret
        rw [HG3.out]
        exact ⟨rfl, HM.out.trans (HM1.out.trans HW.out)⟩
  · have hb : ((n : Int) != G.params) = true := by simpa using hpn
    go_wp2_with fail
    go_quiet (fail)
    go_wp2_with fail
    go_ret
    rw [HR.out]
    exact ⟨by simp [hpn], (HM.out.trans HM1.out).drewN _⟩
theorem right_call (L : List Fm) (f : Fm) (s : Stp) (cb bm : Nat) (lv : Value) (ta sa aa : Option Addr) (tc sc ac : Nat) (W : World) (hc : s.code = 7)
    (hcb : W.cell? ⟨cb, 0, none⟩ = some lv) (hL : FmsAt W None lv L) (hH : Heads L)
    (hT : IntsAt W None (.slice ta f.types.length tc) f.types) (hA : IntsAt W None (.slice aa s.args.length ac) s.args) :
    Calls Tryz.prog 58 #[.pointer (some ⟨cb, 0, none⟩), .agg #[str f.name, .int .i64 f.params, .slice ta f.types.length tc, .slice sa f.steps.length sc], .agg (stpL s (.slice aa s.args.length ac)).toArray, .map (some bm)] W fun e w => e = .returned (.bool (rightB L f s)) ∧ Mods None W w := by
  cases hk : L.findIdx? (fun g => g.name == s.name) with
  | none => exact right_call_no L f s cb bm lv ta sa aa tc sc ac W hc hcb hL hH hT hA (fun k G _ h => by rw [hk] at h; cases h)
  | some k =>
    by_cases hd : kindP f s.dst = 1
    · exact right_call_yes L f s cb bm lv ta sa aa tc sc ac W hc hcb hL hH hT hA k hk hd
    · exact right_call_no L f s cb bm lv ta sa aa tc sc ac W hc hcb hL hH hT hA (fun _ _ _ _ => hd)
end Go.Proofs.YtnicpmoanjddbaaGreatDoor.MidP
