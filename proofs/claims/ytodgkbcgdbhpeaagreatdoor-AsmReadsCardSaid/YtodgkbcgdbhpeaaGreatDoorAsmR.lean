/- A line's parts are read: (*asm.line).read. Conditions: the tables lie; the line's own block lies behind the package's variables. -/
import Derived.Test.YtodgkbcgdbhpeaaGreatDoorAsmS
import Derived.Deep.RegionHeld3
import Derived.Deep.RegionWith
import Derived.OwnWalk
namespace Go.Proofs.YtodgkbcgdbhpeaaGreatDoor.AsmP
open Go.RowKit Go.Proofs.YtodgkbcgdbhpeaaGreatDoor.WordP Go.Proofs.YtodgkbcgdbhpeaaGreatDoor.Wo
set_option linter.unusedVariables false
set_option linter.unusedSimpArgs false
def lineCells (x : Ins) (tgt : List UInt8) (an : Int) : Array Value := #[.int .i64 x.op, .int .i64 x.rd, .int .i64 x.ra, .int .i64 x.rb, .int .i64 x.n, str tgt, .int .i64 an]
/-- What is left to be read. -/
def Left (form : List UInt8) (ws : List (List UInt8)) (x0 : Ins) (i : Nat) (ok : Bool) (x : Ins) (tgt : List UInt8) : Prop := partsR form ws x0 [] = if ok = true then partsR (form.drop i) (ws.drop i) x tgt else none
theorem Left.next {form : List UInt8} {ws : List (List UInt8)} {x0 x x' : Ins} {i : Nat} {ok b : Bool} {tgt tgt' w : List UInt8} {c : UInt8} (h : Left form ws x0 i ok x tgt) (hc : form[i]? = some c) (hw : ws[i]? = some w)
    (hp : (b = true ∧ partR c w x tgt = some (x', tgt')) ∨ (b = false ∧ partR c w x tgt = none)) : Left form ws x0 (i + 1) (ok && b) x' tgt' := by
  unfold Left at *
  rw [h]
  have e1 : form.drop i = c :: form.drop (i + 1) := by
    obtain ⟨hi, rfl⟩ := List.getElem?_eq_some_iff.1 hc
    exact List.drop_eq_getElem_cons hi
  have e2 : ws.drop i = w :: ws.drop (i + 1) := by
    obtain ⟨hi, rfl⟩ := List.getElem?_eq_some_iff.1 hw
    exact List.drop_eq_getElem_cons hi
  cases ok with
  | false => simp
  | true =>
    rw [e1, e2, if_pos rfl, partsR]
    rcases hp with ⟨rfl, hp⟩ | ⟨rfl, hp⟩
    · rw [hp]; rfl
    · rw [hp]; rfl
theorem Left.done {form : List UInt8} {ws : List (List UInt8)} {x0 x : Ins} {ok : Bool} {tgt : List UInt8} (h : Left form ws x0 form.length ok x tgt) (hl : ws.length = form.length) : (ok = true ∧ partsR form ws x0 [] = some (x, tgt)) ∨ (ok = false ∧ partsR form ws x0 [] = none) := by
  unfold Left at h
  rw [h]
  cases ok with
  | false => exact .inr ⟨rfl, by simp⟩
  | true =>
    rw [List.drop_length, ← hl, List.drop_length]
    exact .inl ⟨rfl, rfl⟩
theorem parts_odd : (form : List UInt8) → (ws : List (List UInt8)) → (x : Ins) → (tgt : List UInt8) → ws.length ≠ form.length → partsR form ws x tgt = none
  | [], [], _, _, h => absurd rfl h
  | [], w :: ws, _, _, _ => rfl
  | c :: cs, [], _, _, _ => rfl
  | c :: cs, w :: ws, x, tgt, h => by
    rw [partsR]
    cases partR c w x tgt with
    | none => rfl
    | some p => exact parts_odd cs ws p.1 p.2 (by simpa using h)
theorem trims_len (s : List UInt8) (c : UInt8) (h : s.length ≤ 1000000) : (Lib.trimSuffix s [c]).length ≤ 1000000 := by
  unfold Lib.trimSuffix
  split
  · rw [List.length_take]; omega
  · exact h
theorem cut_len {s p q : List UInt8} {c : UInt8} {two : Bool} (h : cutL c s = (p, q, two)) (hs : s.length ≤ 1000000) : p.length ≤ 1000000 ∧ q.length ≤ 1000000 := by
  by_cases hc : c ∈ s
  · obtain ⟨a, b, rfl, hn⟩ := first_at s hc
    rw [cutL_app hn] at h
    cases h
    simp at hs
    omega
  · rw [cutL_none hc] at h
    cases h
    simp; omega
theorem bool_tree (b e two has : Bool) : b = false ∨ (b = true ∧ e = false) ∨ (b = true ∧ e = true ∧ two = false) ∨ (b = true ∧ e = true ∧ two = true ∧ has = false) ∨ (b = true ∧ e = true ∧ two = true ∧ has = true) := by
  cases b <;> cases e <;> cases two <;> cases has <;> simp
/-- Where the loop stands. -/
structure RdAt (W : World) (pb : ByteArray) (form : List UInt8) (ws : List (List UInt8)) (x0 : Ins) (an : Int) (bl it : Nat) (i : Nat) (ok : Bool) (x : Ins) (tgt : List UInt8) (wr : World) : Prop where
  at_ : wr.heap[it]? = some (.stringIter pb i)
  blk : Blk wr bl (lineCells x tgt an).toList 74
  left : Left form ws x0 i ok x tgt
  mods : Mods (fun k => k = bl) W wr
/-- What read answers. -/
def ReadP (form : List UInt8) (ws : List (List UInt8)) (x0 : Ins) (an : Int) (bl : Nat) (W : World) (e : Ending) (w : World) : Prop :=
  ∃ b x tgt, e = .returned (.bool b) ∧ ((b = true ∧ partsR form ws x0 [] = some (x, tgt)) ∨ (b = false ∧ partsR form ws x0 [] = none)) ∧ Blk w bl (lineCells x tgt an).toList 74 ∧ Mods (fun k => k = bl) W w
structure WordsAt (W : World) (bl : Nat) (oa : Option Addr) (ws : List (List UInt8)) : Prop where
  at_ : ∀ (j : Nat) (w : List UInt8), ws[j]? = some w → ∃ g, oa = some ⟨g, 0, none⟩ ∧ g ≠ bl ∧ W.cell? ⟨g, j, none⟩ = some (str w)
  short : ∀ w ∈ ws, w.length ≤ 1000000
theorem WordsAt.next {W W' : World} {bl : Nat} {oa : Option Addr} {ws : List (List UInt8)} (h : WordsAt W bl oa ws) (hm : Mods (fun k => k = bl) W W') : WordsAt W' bl oa ws :=
  ⟨fun j w hj => by
    obtain ⟨g, h1, h2, h3⟩ := h.at_ j w hj
    exact ⟨g, h1, h2, hm.cellOf h3 h2⟩, h.short⟩
theorem reg_part {w : List UInt8} {v : Int} {b : Bool} (h : (b = true ∧ regR w = some v) ∨ (b = false ∧ regR w = none)) {α : Type} (f : Int → α) : (b = true ∧ (regR w).map f = some (f v)) ∨ (b = false ∧ (regR w).map f = none) := by
  rcases h with ⟨rfl, h⟩ | ⟨rfl, h⟩
  · exact .inl ⟨rfl, by rw [h]; rfl⟩
  · exact .inr ⟨rfl, by rw [h]; rfl⟩
theorem num_part {w : List UInt8} {v : Int} {b : Bool} {q : Prop} (h : (b = true ∧ numR w = some v) ∨ (b = false ∧ numR w = none ∧ q)) {α : Type} (f : Int → α) : (b = true ∧ (numR w).map f = some (f v)) ∨ (b = false ∧ (numR w).map f = none) := by
  rcases h with ⟨rfl, h⟩ | ⟨rfl, h, -⟩
  · exact .inl ⟨rfl, by rw [h]; rfl⟩
  · exact .inr ⟨rfl, by rw [h]; rfl⟩
theorem name_bad {w : List UInt8} (h : nameB w = true) : BadN (Lib.parseIntB 64 w) := by
  unfold nameB at h
  cases w with
  | nil => simp at h
  | cons c r =>
    simp only [Bool.and_eq_true] at h
    have hc : lowB c = true := h.1.2
    unfold lowB at hc
    simp only [Bool.and_eq_true, decide_eq_true_eq] at hc
    have h1 : ¬ (c.toNat = 43 ∨ c.toNat = 45) := by omega
    have h2 : ¬ (48 ≤ c.toNat ∧ c.toNat ≤ 57) := by omega
    refine ⟨fun n => ?_, ?_⟩ <;> unfold Lib.parseIntB <;> simp only [if_neg h1] <;> unfold Lib.parseUintB <;> simp [Lib.parseUintM, h2]
theorem to_part {w : List UInt8} {x : Ins} {tgt : List UInt8} {v : Int} {b nb : Bool} (h : (b = true ∧ numR w = some v) ∨ (b = false ∧ numR w = none ∧ (BadN (Lib.parseIntB 64 w) → v = 0))) (hn : b = false → nb = nameB w) :
    (b = true ∧ partR 116 w x tgt = some ({ x with n := v }, tgt)) ∨ (b = false ∧ nb = true ∧ partR 116 w x tgt = some ({ x with n := v }, w)) ∨ (b = false ∧ nb = false ∧ partR 116 w x tgt = none) := by
  have e : partR 116 w x tgt = (match numR w with | some n => some ({ x with n := n }, tgt) | none => if nameB w = true then some ({ x with n := 0 }, w) else none) := rfl
  rw [e]
  rcases h with ⟨rfl, h⟩ | ⟨rfl, h, hv⟩
  · exact .inl ⟨rfl, by rw [h]⟩
  · rw [h, ← hn rfl]
    cases hb : nb with
    | false => exact .inr (.inr ⟨rfl, rfl, rfl⟩)
    | true =>
      have := hv (name_bad ((hn rfl).symm.trans hb))
      exact .inr (.inl ⟨rfl, rfl, by rw [this]; rfl⟩)
theorem mem_part {w p q : List UInt8} {x : Ins} {tgt : List UInt8} {v r : Int} {b e two has : Bool} {u : Prop} (hp : cutL 40 (Lib.trimSuffix w [41]) = (p, q, two)) (hh : Lib.hasSuffix w [41] = has) (h : (b = true ∧ numR p = some v) ∨ (b = false ∧ numR p = none ∧ u)) (k : (e = true ∧ regR q = some r) ∨ (e = false ∧ regR q = none)) :
    ((b && e && two && has) = true ∧ partR 109 w x tgt = some ({ x with n := v, ra := r }, tgt)) ∨ ((b && e && two && has) = false ∧ partR 109 w x tgt = none) := by
  have e0 : partR 109 w x tgt = (match numR p, regR q with
     | some n, some r => if two = true ∧ has = true then some ({ x with n := n, ra := r }, tgt) else none
     | _, _ => none) := by
    rw [← hh]
    show (match numR (cutL 40 (Lib.trimSuffix w [41])).1, regR (cutL 40 (Lib.trimSuffix w [41])).2.1 with
     | some n, some r => if (cutL 40 (Lib.trimSuffix w [41])).2.2 = true ∧ Lib.hasSuffix w [41] = true then some ({ x with n := n, ra := r }, tgt) else none
     | _, _ => none) = _
    rw [hp]
  rw [e0]
  rcases h with ⟨rfl, h⟩ | ⟨rfl, h, -⟩ <;> rcases k with ⟨rfl, k⟩ | ⟨rfl, k⟩ <;> rw [h, k]
  · cases two <;> cases has <;> simp
  · simp
  · simp
  · simp
set_option maxRecDepth 100000 in
set_option maxHeartbeats 4000000 in
theorem read_any (form : List UInt8) (hform : ∀ c ∈ form, c = 100 ∨ c = 97 ∨ c = 98 ∨ c = 109 ∨ c = 110 ∨ c = 116) (ws : List (List UInt8)) (oa : Option Addr) (oc : Nat) (x0 : Ins) (an : Int) (bl : Nat) (hbl : 12 ≤ bl) (W : World) (hB : Base W) (hws : WordsAt W bl oa ws)
    (hblk : Blk W bl (lineCells x0 [] an).toList 74) (hw0 : ws.length ≤ 2000000) : Calls Tryz.prog 55 #[.pointer (some ⟨bl, 0, none⟩), str form, .slice oa ws.length oc] W (ReadP form ws x0 an bl W) := by
  have hfar : Far (fun k => k = bl) := fun k hk => by rw [hk]; exact hbl
  obtain ⟨pb, hpb⟩ : ∃ pb : ByteArray, pb = ⟨form.toArray⟩ := ⟨_, rfl⟩
  have hps : pb.size = form.length := by rw [hpb]; exact size_str _
  have HPB := Lib.hid (And.intro hpb hps)
  have HB := Lib.hid hB
  have HFAR := Lib.hid hfar
  have HFM := Lib.hid hform
  have HWS := Lib.hid hws
  have HBK := Lib.hid hblk
  obtain ⟨n, hn⟩ : ∃ n, n = ws.length := ⟨_, rfl⟩
  have HN := Lib.hid hn
  have hn0 : n ≤ 2000000 := by omega
  have HLT : Hid (bl < W.heap.size) := Lib.hid hblk.lt
  rw [← hn]
  clear hB hfar hform hws hblk hw0 hbl
  unfold str
  rw [← hpb]
  clear hpb hps hn
  by_cases hl : n = pb.size
  · subst hl
    go_enter Tryz.func55, Tryz.ntmps55
    go_wp2_with fail
    go_loopw [7] (fun okv wr => ∃ (i : Nat) (ok : Bool) (x : Ins) (tgt : List UInt8), i ≤ pb.size ∧ okv = .bool ok ∧ Hid (RdAt W pb form ws x0 an bl W.heap.size i ok x tgt wr)) (fun _ wr => pb.size - wr.iterPos W.heap.size)
    case atStart => exact ⟨0, true, x0, [], Nat.zero_le _, rfl, Lib.hid ⟨World.iter_heap _ _ _, HBK.out.alloc _, by unfold Left; rw [if_pos rfl]; rfl, (Mods.refl _ _).alloc _⟩⟩
    case round =>
      obtain ⟨i, ok, x, tgt, hi, rfl, HW⟩ := hrel
      by_cases hlt : i < pb.size
      · obtain ⟨c, hc, hci⟩ : ∃ c, form[i]? = some c ∧ pb[i]'hlt = c := by
          have h1 : i < form.length := by rw [← HPB.out.2]; exact hlt
          refine ⟨form[i], List.getElem?_eq_getElem h1, ?_⟩
          have e := HPB.out.1
          subst e
          rfl
        obtain ⟨w, hwi⟩ : ∃ w, ws[i]? = some w := ⟨_, List.getElem?_eq_getElem (by rw [← HN.out]; exact hlt)⟩
        have hcm := HFM.out c (List.mem_of_getElem? hc)
        have hsm : (pb[i]'hlt).toNat < 128 := by rw [hci]; rcases hcm with rfl | rfl | rfl | rfl | rfl | rfl <;> decide
        have hnx0 : ∀ ty, (Instr.next (.pointer (some ⟨W.heap.size, 0, none⟩)) true ty).run Tryz.prog wr = .ok (.tuple #[.bool true, .int .i64 i, .int .i32 (pb[i]'hlt).toNat]) (wr.iterAt W.heap.size pb (i + 1)) := fun ty => Lib.run_next_ascii_at wr W.heap.size pb i ty HW.out.at_ hlt hsm
        obtain ⟨w6, hw6⟩ : ∃ w6, w6 = wr.iterAt W.heap.size pb (i + 1) := ⟨_, rfl⟩
        rw [← hw6, hci] at hnx0
        have hlt3 := HLT.out
        have HBX6 : Hid (Blk w6 bl (lineCells x tgt an).toList 74) := Lib.hid (by rw [hw6]; exact iter_blk HW.out.blk (by omega) _ _)
        have HIT : Hid (w6.heap[W.heap.size]? = some (.stringIter pb (i + 1))) := Lib.hid (by rw [hw6]; exact Lib.iterAt_heap _ _ _ _ _ HW.out.at_)
        have HM6 : Hid (Mods (fun k => k = bl) W w6) := Lib.hid (by rw [hw6]; exact iter_mods HW.out.mods (by omega) _ _)
        have HCW := Lib.hid (And.intro hc hwi)
        have HLF := Lib.hid HW.out.left
        have HP := Lib.hid (iterPos_of HW.out.at_)
        obtain ⟨g, hoa, hg, hcw⟩ := (HWS.out.next HM6.out).at_ i w hwi
        have HG := Lib.hid hg
        have HSH := Lib.hid ((HWS.out.short w (List.mem_of_getElem? hwi)))
        have HB6 := Lib.hid (HB.out.next HM6.out HFAR.out)
        have HIN := Lib.hid (And.intro hlt hlt3)
        subst hoa
        unfold str at hcw
        have hin : (i : Int) < pb.size := by omega
        have hcw1 := hcw
        clear hw6 HW hc hsm hci hi hlt3 hg hwi
        rcases hcm with rfl | rfl | rfl | rfl | rfl | rfl
        all_goals simp only [UInt8.reduceToNat] at hnx0
        · have hnx := hnx0
          clear hnx0
          go_wp2_with fail
          refine (register_read w HSH.out w6 HB6.out).mono ?_
          rintro e w7 ⟨⟨v, b, rfl, -, hv⟩, hm7⟩
          have HL := Lib.hid (HLF.out.next HCW.out.1 HCW.out.2 (reg_part hv fun n => ({ x with rd := n }, tgt)))
          have HM7 := Lib.hid (HM6.out.trans' hm7 (fun k hk => hk.elim))
          have HIT7 := Lib.hid (iter_mod hm7 HIT.out (fun f => f))
          have HBX7 := Lib.hid (HBX6.out.mods hm7 (fun f => f))
          clear hm7 hv hcw1 hnx
          have q1 := HBX7.out.cell (i := 1) rfl
          have f1 := HBX7.out.free 1
          cases ok
          all_goals
            go_wp2_with fail
            have hs := HBX7.out.set 1 (.int .i64 v)
            have hi9 := (iter_set HIT7.out (a := ⟨bl, 1, none⟩) (by have := HIN.out.2; simp only; omega) (.int .i64 v))
            exact ⟨⟨i + 1, _, { x with rd := v }, tgt, by have := HIN.out.1; omega, rfl, Lib.hid ⟨hi9, hs, HL.out, HM7.out.setCell (fun _ => rfl) _⟩⟩, by have h9 := iterPos_of hi9; rw [HP.out, h9]; have := HIN.out.1; omega⟩
        · have hnx := hnx0
          clear hnx0
          go_wp2_with fail
          refine (register_read w HSH.out w6 HB6.out).mono ?_
          rintro e w7 ⟨⟨v, b, rfl, -, hv⟩, hm7⟩
          have HL := Lib.hid (HLF.out.next HCW.out.1 HCW.out.2 (reg_part hv fun n => ({ x with ra := n }, tgt)))
          have HM7 := Lib.hid (HM6.out.trans' hm7 (fun k hk => hk.elim))
          have HIT7 := Lib.hid (iter_mod hm7 HIT.out (fun f => f))
          have HBX7 := Lib.hid (HBX6.out.mods hm7 (fun f => f))
          clear hm7 hv hcw1 hnx
          have q2 := HBX7.out.cell (i := 2) rfl
          have f2 := HBX7.out.free 2
          cases ok
          all_goals
            go_wp2_with fail
            have hs := HBX7.out.set 2 (.int .i64 v)
            have hi9 := (iter_set HIT7.out (a := ⟨bl, 2, none⟩) (by have := HIN.out.2; simp only; omega) (.int .i64 v))
            exact ⟨⟨i + 1, _, { x with ra := v }, tgt, by have := HIN.out.1; omega, rfl, Lib.hid ⟨hi9, hs, HL.out, HM7.out.setCell (fun _ => rfl) _⟩⟩, by have h9 := iterPos_of hi9; rw [HP.out, h9]; have := HIN.out.1; omega⟩
        · have hnx := hnx0
          clear hnx0
          go_wp2_with fail
          refine (register_read w HSH.out w6 HB6.out).mono ?_
          rintro e w7 ⟨⟨v, b, rfl, -, hv⟩, hm7⟩
          have HL := Lib.hid (HLF.out.next HCW.out.1 HCW.out.2 (reg_part hv fun n => ({ x with rb := n }, tgt)))
          have HM7 := Lib.hid (HM6.out.trans' hm7 (fun k hk => hk.elim))
          have HIT7 := Lib.hid (iter_mod hm7 HIT.out (fun f => f))
          have HBX7 := Lib.hid (HBX6.out.mods hm7 (fun f => f))
          clear hm7 hv hcw1 hnx
          have q3 := HBX7.out.cell (i := 3) rfl
          have f3 := HBX7.out.free 3
          cases ok
          all_goals
            go_wp2_with fail
            have hs := HBX7.out.set 3 (.int .i64 v)
            have hi9 := (iter_set HIT7.out (a := ⟨bl, 3, none⟩) (by have := HIN.out.2; simp only; omega) (.int .i64 v))
            exact ⟨⟨i + 1, _, { x with rb := v }, tgt, by have := HIN.out.1; omega, rfl, Lib.hid ⟨hi9, hs, HL.out, HM7.out.setCell (fun _ => rfl) _⟩⟩, by have h9 := iterPos_of hi9; rw [HP.out, h9]; have := HIN.out.1; omega⟩
        · have hnx := hnx0
          clear hnx0
          obtain ⟨⟨p1, p2, two⟩, hcu⟩ : ∃ p, cutL 40 (Lib.trimSuffix w [41]) = p := ⟨_, rfl⟩
          obtain ⟨has, hha⟩ : ∃ has, Lib.hasSuffix w [41] = has := ⟨_, rfl⟩
          have HCU := Lib.hid (And.intro hcu hha)
          have HPL : Hid (p1.length ≤ 1000000 ∧ p2.length ≤ 1000000) := Lib.hid (cut_len hcu (trims_len w 41 HSH.out))
          clear hcu hha
          go_wp2_with fail
          refine (trims_any w 41 HSH.out w6).mono ?_
          rintro e w' ⟨rfl, rfl⟩
          obtain ⟨w6, rfl⟩ : ∃ q : World, q = w' := ⟨_, rfl⟩
          go_wp2_with fail
          refine (cut_any (Lib.trimSuffix w [41]) 40 (trims_len w 41 HSH.out) w6 HB6.out).mono ?_
          rintro e w7 ⟨rfl, hm7⟩
          rw [HCU.out.1]
          have HM7 := Lib.hid (HM6.out.trans' hm7 (fun k hk => hk.elim))
          have HIT7 := Lib.hid (iter_mod hm7 HIT.out (fun f => f))
          have HBX7 := Lib.hid (HBX6.out.mods hm7 (fun f => f))
          have HB7 := Lib.hid (HB6.out.next hm7 far_none)
          clear hm7 hcw1 hnx HIT HBX6 HM6
          go_wp2_with fail
          refine (number_any p1 HPL.out.1 w7 HB7.out).mono ?_
          rintro e w8 ⟨⟨v, b, rfl, -, hv⟩, hm8⟩
          have HV := Lib.hid hv
          have HM8 := Lib.hid (HM7.out.trans' hm8 (fun k hk => hk.elim))
          have HIT8 := Lib.hid (iter_mod hm8 HIT7.out (fun f => f))
          have HBX8 := Lib.hid (HBX7.out.mods hm8 (fun f => f))
          have HB8 := Lib.hid (HB7.out.next hm8 far_none)
          clear hm8 hv HIT7 HBX7 HM7 HB7
          have q4 := HBX8.out.cell (i := 4) rfl
          have f4 := HBX8.out.free 4
          go_wp2_with fail
          obtain ⟨w9, hw9⟩ : ∃ q, q = w8.setCell ⟨bl, 4, none⟩ (.int .i64 v) := ⟨_, rfl⟩
          have HBX9 : Hid (Blk w9 bl (lineCells { x with n := v } tgt an).toList 74) := Lib.hid (by rw [hw9]; exact HBX8.out.set 4 (.int .i64 v))
          have HIT9 : Hid (w9.heap[W.heap.size]? = some (.stringIter pb (i + 1))) := Lib.hid (by rw [hw9]; exact iter_set HIT8.out (a := ⟨bl, 4, none⟩) (by have := HIN.out.2; simp only; omega) (.int .i64 v))
          have HM9 : Hid (Mods (fun k => k = bl) W w9) := Lib.hid (by rw [hw9]; exact HM8.out.setCell (fun _ => rfl) _)
          have HB9 : Hid (Base w9) := Lib.hid (HB.out.next HM9.out HFAR.out)
          rw [← hw9]
          clear hw9 HIT8 HBX8 HM8 HB8 q4 f4
          refine (register_read p2 HPL.out.2 w9 HB9.out).mono ?_
          rintro e wa ⟨⟨v2, b2, rfl, -, hv2⟩, hma⟩
          have HL := Lib.hid (HLF.out.next HCW.out.1 HCW.out.2 (mem_part HCU.out.1 HCU.out.2 HV.out hv2))
          have HMa := Lib.hid (HM9.out.trans' hma (fun k hk => hk.elim))
          have HITa := Lib.hid (iter_mod hma HIT9.out (fun f => f))
          have HBXa := Lib.hid (HBX9.out.mods hma (fun f => f))
          clear hma hv2 HIT9 HBX9 HM9 HB9 HV
          have q2 := HBXa.out.cell (i := 2) rfl
          have f2 := HBXa.out.free 2
          have hcw2 : wa.cell? ⟨g, i, none⟩ = some (.string ⟨w.toArray⟩) := by
            obtain ⟨g', e, -, h⟩ := (HWS.out.next HMa.out).at_ i w HCW.out.2
            cases e
            exact h
          have hcwS : (wa.setCell ⟨bl, 2, none⟩ (.int .i64 v2)).cell? ⟨g, i, none⟩ = some (.string ⟨w.toArray⟩) := ((Mods.refl (fun k => k = bl) wa).setCell (fun _ => rfl) _).cellOf hcw2 HG.out
          rcases bool_tree b b2 two has with rfl | ⟨rfl, rfl⟩ | ⟨rfl, rfl, rfl⟩ | ⟨rfl, rfl, rfl, rfl⟩ | ⟨rfl, rfl, rfl, rfl⟩ <;> cases ok
          all_goals
            go_wp2_with (go_at_call 90; refine (has_any w 41 HSH.out _).mono ?_; rintro e wb ⟨rfl, rfl⟩; rw [HCU.out.2])
            have hs := HBXa.out.set 2 (.int .i64 v2)
            have hi9 := (iter_set HITa.out (a := ⟨bl, 2, none⟩) (by have := HIN.out.2; simp only; omega) (.int .i64 v2))
            exact ⟨⟨i + 1, _, { x with n := v, ra := v2 }, tgt, by have := HIN.out.1; omega, rfl, Lib.hid ⟨hi9, hs, HL.out, HMa.out.setCell (fun _ => rfl) _⟩⟩, by have h9 := iterPos_of hi9; rw [HP.out, h9]; have := HIN.out.1; omega⟩
        · have hnx := hnx0
          clear hnx0
          go_wp2_with fail
          refine (number_any w HSH.out w6 HB6.out).mono ?_
          rintro e w7 ⟨⟨v, b, rfl, -, hv⟩, hm7⟩
          have HL := Lib.hid (HLF.out.next HCW.out.1 HCW.out.2 (num_part hv fun n => ({ x with n := n }, tgt)))
          have HM7 := Lib.hid (HM6.out.trans' hm7 (fun k hk => hk.elim))
          have HIT7 := Lib.hid (iter_mod hm7 HIT.out (fun f => f))
          have HBX7 := Lib.hid (HBX6.out.mods hm7 (fun f => f))
          clear hm7 hv hcw1 hnx
          have q4 := HBX7.out.cell (i := 4) rfl
          have f4 := HBX7.out.free 4
          cases ok
          all_goals
            go_wp2_with fail
            have hs := HBX7.out.set 4 (.int .i64 v)
            have hi9 := (iter_set HIT7.out (a := ⟨bl, 4, none⟩) (by have := HIN.out.2; simp only; omega) (.int .i64 v))
            exact ⟨⟨i + 1, _, { x with n := v }, tgt, by have := HIN.out.1; omega, rfl, Lib.hid ⟨hi9, hs, HL.out, HM7.out.setCell (fun _ => rfl) _⟩⟩, by have h9 := iterPos_of hi9; rw [HP.out, h9]; have := HIN.out.1; omega⟩
        · have hnx := hnx0
          clear hnx0
          go_wp2_with fail
          refine (number_any w HSH.out w6 HB6.out).mono ?_
          rintro e w7 ⟨⟨v, b, rfl, -, hv⟩, hm7⟩
          have HV := Lib.hid (fun nb hn => to_part (x := x) (tgt := tgt) (nb := nb) hv hn)
          have HM7 := Lib.hid (HM6.out.trans' hm7 (fun k hk => hk.elim))
          have HIT7 := Lib.hid (iter_mod hm7 HIT.out (fun f => f))
          have HBX7 := Lib.hid (HBX6.out.mods hm7 (fun f => f))
          have hcw7 : w7.cell? ⟨g, i, none⟩ = some (.string ⟨w.toArray⟩) := hm7.cellOf hcw (fun f => f)
          clear hm7 hv hcw1 hnx HIT HBX6 HM6 HB6 hcw
          have q4 := HBX7.out.cell (i := 4) rfl
          have f4 := HBX7.out.free 4
          obtain ⟨w8, hw8⟩ : ∃ q, q = w7.setCell ⟨bl, 4, none⟩ (.int .i64 v) := ⟨_, rfl⟩
          have HBX8 : Hid (Blk w8 bl (lineCells { x with n := v } tgt an).toList 74) := Lib.hid (by rw [hw8]; exact HBX7.out.set 4 (.int .i64 v))
          have HIT8 : Hid (w8.heap[W.heap.size]? = some (.stringIter pb (i + 1))) := Lib.hid (by rw [hw8]; exact iter_set HIT7.out (a := ⟨bl, 4, none⟩) (by have := HIN.out.2; simp only; omega) (.int .i64 v))
          have HM8 : Hid (Mods (fun k => k = bl) W w8) := Lib.hid (by rw [hw8]; exact HM7.out.setCell (fun _ => rfl) _)
          have hcw8 : w8.cell? ⟨g, i, none⟩ = some (.string ⟨w.toArray⟩) := by
            obtain ⟨g', e, -, h⟩ := (HWS.out.next HM8.out).at_ i w HCW.out.2
            cases e
            exact h
          have HW8 := Lib.hid hw8
          have hcwS : (w7.setCell ⟨bl, 4, none⟩ (.int .i64 v)).cell? ⟨g, i, none⟩ = some (.string ⟨w.toArray⟩) := by rw [← hw8]; exact hcw8
          clear hw8
          cases b with
          | true =>
            rcases HV.out true (fun h => by cases h) with ⟨-, hp⟩ | ⟨h, -⟩ | ⟨h, -⟩
            · have HL := Lib.hid (HLF.out.next (b := true) HCW.out.1 HCW.out.2 (.inl ⟨rfl, hp⟩))
              clear hp HV
              cases ok
              all_goals
                go_wp2_with fail
                rw [← HW8.out]
                have hi9 := HIT8.out
                have hs := HBX8.out
                exact ⟨⟨i + 1, _, { x with n := v }, tgt, by have := HIN.out.1; omega, rfl, Lib.hid ⟨hi9, hs, HL.out, HM8.out⟩⟩, by have h9 := iterPos_of hi9; rw [HP.out, h9]; have := HIN.out.1; omega⟩
            · cases h
            · cases h
          | false =>
            obtain ⟨nb, hnb⟩ : ∃ nb, nb = nameB w := ⟨_, rfl⟩
            rcases HV.out nb (fun _ => hnb) with ⟨h, -⟩ | ⟨-, h, hp⟩ | ⟨-, h, hp⟩
            · cases h
            · subst h
              have HL := Lib.hid (HLF.out.next (b := true) HCW.out.1 HCW.out.2 (.inl ⟨rfl, hp⟩))
              have HNB := Lib.hid hnb
              clear hp HV hnb
              cases ok
              all_goals
                go_wp2_with fail
                go_at_call 16
                rw [← HW8.out]
                refine (name_any w HSH.out w8).mono ?_
                rintro e w9 ⟨rfl, hm9⟩
                rw [← HNB.out]
                have HM9 := Lib.hid (HM8.out.trans' hm9 (fun k hk => hk.elim))
                have HIT9 := Lib.hid (iter_mod hm9 HIT8.out (fun f => f))
                have HBX9 := Lib.hid (HBX8.out.mods hm9 (fun f => f))
                have hcw9 : w9.cell? ⟨g, i, none⟩ = some (.string ⟨w.toArray⟩) := hm9.cellOf hcw8 (fun f => f)
                clear hm9
                have q5 := HBX9.out.cell (i := 5) rfl
                have f5 := HBX9.out.free 5
                unfold str at q5
                go_wp2_with fail
                have hs := HBX9.out.set 5 (.string ⟨w.toArray⟩)
                have hi9 := (iter_set HIT9.out (a := ⟨bl, 5, none⟩) (by have := HIN.out.2; simp only; omega) (.string ⟨w.toArray⟩))
                exact ⟨⟨i + 1, _, { x with n := v }, w, by have := HIN.out.1; omega, rfl, Lib.hid ⟨hi9, hs, HL.out, HM9.out.setCell (fun _ => rfl) _⟩⟩, by have h9 := iterPos_of hi9; rw [HP.out, h9]; have := HIN.out.1; omega⟩
            · subst h
              have HL := Lib.hid (HLF.out.next (b := false) (x' := { x with n := v }) (tgt' := tgt) HCW.out.1 HCW.out.2 (.inr ⟨rfl, hp⟩))
              have HNB := Lib.hid hnb
              clear hp HV hnb
              cases ok
              all_goals
                go_wp2_with fail
                go_at_call 16
                rw [← HW8.out]
                refine (name_any w HSH.out w8).mono ?_
                rintro e w9 ⟨rfl, hm9⟩
                rw [← HNB.out]
                have HM9 := Lib.hid (HM8.out.trans' hm9 (fun k hk => hk.elim))
                have hi9 := (iter_mod hm9 HIT8.out (fun f => f))
                have HI9 := Lib.hid hi9
                have HBX9 := Lib.hid (HBX8.out.mods hm9 (fun f => f))
                clear hm9 hi9
                go_wp2_with fail
                have hi9 := HI9.out
                have hs := HBX9.out
                exact ⟨⟨i + 1, _, { x with n := v }, tgt, by have := HIN.out.1; omega, rfl, Lib.hid ⟨hi9, hs, HL.out, HM9.out⟩⟩, by have h9 := iterPos_of hi9; rw [HP.out, h9]; have := HIN.out.1; omega⟩
      · obtain rfl : i = pb.size := by omega
        have hnx0 : ∀ ty, (Instr.next (.pointer (some ⟨W.heap.size, 0, none⟩)) true ty).run Tryz.prog wr = .ok (.tuple #[.bool false]) wr := fun ty => Lib.run_next_end_at wr W.heap.size pb pb.size ty HW.out.at_ (by omega)
        go_wp2_with fail
        go_ret
        have hd := HW.out.left
        rw [HPB.out.2] at hd
        exact ⟨ok, x, tgt, rfl, hd.done (by rw [← HN.out]; exact HPB.out.2), HW.out.blk, HW.out.mods⟩
  · have hl2 : ¬ (n : Int) = pb.size := by omega
    have hl3 : ((n : Int) == pb.size) = false := by rw [beq_eq_false_iff_ne]; exact hl2
    go_enter Tryz.func55, Tryz.ntmps55
    go_wp2_with fail
    go_ret
    exact ⟨false, x0, [], rfl, .inr ⟨rfl, parts_odd _ _ _ _ (by rw [← HN.out, ← HPB.out.2]; exact hl)⟩, HBK.out, Mods.refl _ _⟩
end Go.Proofs.YtodgkbcgdbhpeaaGreatDoor.AsmP
