/- The instruction that a word is, by the reference: a contract of ref.Decode, of any word. No conditions. -/
import Derived.Test.YtgeajgdddjjjnaaDoorRefDecPlain
namespace Go.Proofs.YtgeajgdddjjjnaaDoor.RefP
open Go.RowKit Go.Proofs.YtgeajgdddjjjnaaDoor.Wo Go.Proofs.YtgeajgdddjjjnaaDoor.WordP Go.Proofs.YtgeajgdddjjjnaaDoor.AluP
set_option linter.unusedVariables false
set_option linter.unusedSimpArgs false
/-- What the reference's Decode tells. -/
def refVal (w : Int) : Value := match dec w with
  | some x => .tuple #[x.val, .int .i64 0]
  | none => .tuple #[inst 0 0 0 0 0, .int .i64 3]
theorem refVal_some {w : Int} {x : Ins} (h : dec w = some x) : refVal w = .tuple #[x.val, .int .i64 0] := by simp [refVal, h]
theorem refVal_none {w : Int} (h : dec w = none) : refVal w = .tuple #[inst 0 0 0 0 0, .int .i64 3] := by simp [refVal, h]
theorem ret_ref {w : Int} {v : Value} (h : refVal w = v) : Ending.returned v = .returned (refVal w) := by rw [h]
theorem scan_past {w o : Int} (h : 32 ≤ o) : scan w (32 - o).toNat o = scan w (32 - (o + 1)).toNat (o + 1) := by
  rw [show (32 - o).toNat = 0 by omega, show (32 - (o + 1)).toNat = 0 by omega]; rfl
set_option maxRecDepth 100000 in
set_option maxHeartbeats 2000000 in
theorem decode_ref (w : Int) (W : World) (hx : 0 ≤ w ∧ w < 4294967296) :
    Calls Tryd.prog 27 #[.int .u32 w] W fun e W' => e = .returned (refVal w) ∧ Mods None W W' := by
  have hG0 : Mods None W (W.alloc (.cells (instCells 0 0 0 0 0) 23)) := (Mods.refl _ _).alloc _
  have h5 : Blk (W.alloc (.cells (instCells 0 0 0 0 0) 23)) W.heap.size (instCells 0 0 0 0 0).toList 23 := Blk.new W _ _
  obtain ⟨W0, hW0⟩ : ∃ W0, W0 = W.alloc (.cells (instCells 0 0 0 0 0) 23) := ⟨_, rfl⟩
  rw [← hW0] at h5 hG0
  have H5 := Lib.hid h5
  have HG := Lib.hid hG0
  have hmask : bits .and .u32 w 127 = w % 128 := and_mask _ 7 (by decide) _ (by decide)
  clear h5 hG0
  go_enter Tryd.func27, Tryd.ntmps27
  go_wp2
  rw [← hW0]
  clear hW0
  go_loopw [4] (fun v wr => ∃ o : Int, (1 ≤ o ∧ o ≤ 40) ∧ v = .int .i64 o ∧ Hid (dec w = scan w (32 - o).toNat o) ∧ Hid (Mods None W0 wr)) (fun v _ => (40 - intOf v).toNat)
  case atStart => exact ⟨1, by omega, rfl, Lib.hid rfl, Lib.hid (Mods.refl _ _)⟩
  case round =>
    obtain ⟨o, ho, rfl, hd, hg⟩ := hrel
    by_cases hlast : o = 40
    · subst hlast
      have hb := H5.out.mods hg.out (fun f => f)
      have c0 := hb.cell (i := 0) rfl
      have c1 := hb.cell (i := 1) rfl
      have c2 := hb.cell (i := 2) rfl
      have c3 := hb.cell (i := 3) rfl
      have c4 := hb.cell (i := 4) rfl
      have cf := hb.free
      have hn : Hid (dec w = none) := Lib.hid (by rw [hd.out]; rfl)
      have hg' : Mods None W wr := HG.out.trans hg.out
      clear hb
      go_wp2
      refine bodyPost_ret (v := .tuple #[inst 0 0 0 0 0, .int .i64 3]) ?_ rfl ⟨ret_ref (refVal_none hn.out), ?_⟩
      · simp [results, Tryd.results27, go_sem, c0, c1, c2, c3, c4]
      · repeat (first | (with_reducible refine Mods.setCell ?_ (fun h => absurd h (Nat.lt_irrefl _)) _) | with_reducible exact hg')
    · by_cases hpast : 32 ≤ o
      · go_wp2_with fail
        refine (form_no o (by omega) wr).mono ?_
        rintro e w1 ⟨rfl, hm⟩
        have HM := Lib.hid hm
        clear hm
        go_wp2
        go_roundw
        case rel => exact ⟨o + 1, by omega, rfl, Lib.hid (by rw [hd.out, scan_past hpast]), Lib.hid (by exact (hg.out.trans HM.out).alloc _)⟩
        case measure => simp [intOf]; omega
      · have ho2 : o ≤ 31 := by omega
        have hkin := kind_in ho.1 ho2
        obtain ⟨k, hk⟩ : ∃ k, k = kindOf o := ⟨_, rfl⟩
        obtain ⟨l, hl⟩ : ∃ l, l = lowOf o := ⟨_, rfl⟩
        obtain ⟨m, hm⟩ : ∃ m, m = midOf o := ⟨_, rfl⟩
        obtain ⟨hi, hh⟩ : ∃ hi, hi = highOf o := ⟨_, rfl⟩
        obtain ⟨nm, hn⟩ : ∃ nm, nm = nameOf o := ⟨_, rfl⟩
        have HF := Lib.hid (form_parts o ho.1 ho2 wr)
        rw [← hk, ← hl, ← hm, ← hh, ← hn] at HF
        rw [← hk] at hkin
        have HK := Lib.hid hkin
        have HKO := Lib.hid hk
        have HLO := Lib.hid hl
        clear hk hl hm hh hn hkin
        go_wp2_with fail
        refine HF.out.mono ?_
        rintro e w3 ⟨rfl, hm3⟩
        obtain ⟨W4, hW4⟩ : ∃ W4, W4 = w3.alloc (.cells #[.int .u8 k, .int .u32 l, .int .u32 m, .int .u32 hi, .string nm] 87) := ⟨_, rfl⟩
        have HM4 : Hid (Mods None W0 W4) := Lib.hid (by rw [hW4]; exact (hg.out.trans hm3).alloc _)
        have HB4 : Hid (Blk W4 w3.heap.size [.int .u8 k, .int .u32 l, .int .u32 m, .int .u32 hi, .string nm] 87) := Lib.hid (by rw [hW4]; exact Blk.new w3 _ _)
        have hW4s : Hid (W4.heap.size = w3.heap.size + 1) := Lib.hid (by rw [hW4]; simp)
        clear hm3
        have f0 : W4.cell? ⟨w3.heap.size, 0, none⟩ = some (.int .u8 k) := HB4.out.cell rfl
        have f1 : W4.cell? ⟨w3.heap.size, 1, none⟩ = some (.int .u32 l) := HB4.out.cell rfl
        by_cases hlow : l = w % 128
        · have hl' : (w % 128 != l) = false := by simpa using hlow.symm
          have HLW := Lib.hid hlow
          clear hlow
          go_wp2_with fail
          rw [← hW4]
          clear hW4
          obtain ⟨W5, hW5⟩ : ∃ W5, W5 = W4.alloc (.cells (instCells o 0 0 0 0) 23) := ⟨_, rfl⟩
          have hm5 : Mods None W4 W5 := by rw [hW5]; exact (Mods.refl _ _).alloc _
          have HM5 : Hid (Mods None W0 W5) := Lib.hid (HM4.out.trans hm5)
          have HX : Hid (Blk W5 W4.heap.size [.int .i64 o, .int .i64 0, .int .i64 0, .int .i64 0, .int .i64 0] 23) := Lib.hid (by rw [hW5]; exact Blk.new W4 _ _)
          have HB5 : Hid (Blk W5 w3.heap.size [.int .u8 k, .int .u32 l, .int .u32 m, .int .u32 hi, .string nm] 87) := Lib.hid (HB4.out.mods hm5 (fun f => f))
          have HLT : Hid (w3.heap.size < W4.heap.size ∧ W4.heap.size < W5.heap.size) := Lib.hid ⟨HB4.out.lt, HX.out.lt⟩
          clear hm5
          rw [← hW5]
          clear hW5
          have f0 : W5.cell? ⟨w3.heap.size, 0, none⟩ = some (.int .u8 k) := HB5.out.cell rfl
          refine (has_any k _ HK.out).mono ?_
          rintro e w' ⟨rfl, rfl⟩
          obtain ⟨nm2, hnm2⟩ : ∃ nm2, nm2 = hasOf k := ⟨_, rfl⟩
          have HNM := Lib.hid hnm2
          rw [← hnm2]
          clear hnm2
          obtain ⟨bx, hbx⟩ : ∃ bx, bx = w3.heap.size + 1 := ⟨_, rfl⟩
          have HX' : Hid (Blk W5 bx [.int .i64 o, .int .i64 0, .int .i64 0, .int .i64 0, .int .i64 0] 23) := Lib.hid (by rw [hbx]; have := HX.out; rwa [hW4s.out] at this)
          have HBX : Hid (W0.heap.size ≤ bx ∧ bx < W5.heap.size ∧ w3.heap.size ≠ bx) := Lib.hid (by
            have h1 := HX'.out.lt
            have h2 := HM4.out.size
            have h3 := hW4s.out
            omega)
          rw [← hbx]
          clear HX hbx
          go_wp2_with fail
          go_loopw [9] (fun v wr => ∃ i : Nat, Hid (i ≤ nm2.size ∧ wr.heap[W5.heap.size]? = some (.stringIter nm2 i)) ∧ Hid (Blk wr bx [.int .i64 o, .int .i64 (regLetter 100 (nm2.data.toList.take i) (w / 128 % 32)), .int .i64 (regLetter 97 (nm2.data.toList.take i) (w / 32768 % 32)), .int .i64 (regLetter 98 (nm2.data.toList.take i) (w / 1048576 % 32)), .int .i64 0] 23) ∧ Hid (Mods (· = bx) W5 wr)) (fun _ wr => nm2.size - wr.iterPos W5.heap.size)
          case atStart => exact ⟨0, Lib.hid ⟨by omega, World.iter_heap _ _ _⟩, Lib.hid (HX'.out.alloc _), Lib.hid ((Mods.refl _ _).alloc _)⟩
          case round =>
            obtain ⟨i, hi, hxb, hmx⟩ := hrel
            by_cases hlt : i < nm2.size
            · have hlet : nm2[i]'hlt = 100 ∨ nm2[i]'hlt = 97 ∨ nm2[i]'hlt = 98 := by
                have hlt' := hlt
                have hN := HNM.out
                subst hN
                exact has_letter k HK.out i hlt'
              have hsm : (nm2[i]'hlt).toNat < 128 := by rcases hlet with e | e | e <;> rw [e] <;> decide
              have hnx0 : ∀ ty, (Instr.next (.pointer (some ⟨W5.heap.size, 0, none⟩)) true ty).run Tryd.prog wr = .ok (.tuple #[.bool true, .int .i64 i, .int .i32 (nm2[i]'hlt).toNat]) (wr.iterAt W5.heap.size nm2 (i + 1)) := fun ty => Lib.run_next_ascii_at wr W5.heap.size nm2 i ty hi.out.2 hlt hsm
              have e1 := reg_snoc nm2 i hlt 100 (w / 128 % 32)
              have e2 := reg_snoc nm2 i hlt 97 (w / 32768 % 32)
              have e3 := reg_snoc nm2 i hlt 98 (w / 1048576 % 32)
              obtain ⟨w6, hw6⟩ : ∃ w6, w6 = wr.iterAt W5.heap.size nm2 (i + 1) := ⟨_, rfl⟩
              rw [← hw6] at hnx0
              obtain ⟨r1, hr1⟩ : ∃ r1, r1 = regLetter 100 (nm2.data.toList.take i) (w / 128 % 32) := ⟨_, rfl⟩
              obtain ⟨r2, hr2⟩ : ∃ r2, r2 = regLetter 97 (nm2.data.toList.take i) (w / 32768 % 32) := ⟨_, rfl⟩
              obtain ⟨r3, hr3⟩ : ∃ r3, r3 = regLetter 98 (nm2.data.toList.take i) (w / 1048576 % 32) := ⟨_, rfl⟩
              rw [← hr1, ← hr2, ← hr3] at hxb
              rw [← hr1] at e1
              rw [← hr2] at e2
              rw [← hr3] at e3
              have hxb6 : Blk w6 bx [.int .i64 o, .int .i64 r1, .int .i64 r2, .int .i64 r3, .int .i64 0] 23 := by rw [hw6]; exact iter_blk hxb.out (by have := HBX.out; omega) _ _
              have hit6 : w6.heap[W5.heap.size]? = some (.stringIter nm2 (i + 1)) := by rw [hw6]; exact Lib.iterAt_heap _ _ _ _ _ hi.out.2
              have hm6 : Mods (· = bx) W5 w6 := by rw [hw6]; exact iter_mods hmx.out (Nat.le_refl _) _ _
              have c1 := hxb6.cell (i := 1) rfl
              have c2 := hxb6.cell (i := 2) rfl
              have c3 := hxb6.cell (i := 3) rfl
              have cf := hxb6.free
              have HXB := Lib.hid hxb6
              have HIT := Lib.hid hit6
              have HM6 := Lib.hid hm6
              have hpos := iterPos_of hi.out.2
              have HP := Lib.hid hpos
              clear hw6 hr1 hr2 hr3 hxb6 hit6 hm6 hi hxb hmx hpos
              rcases hlet with e | e | e
              all_goals
                rw [e] at hnx0 e1 e2 e3
                have hnx : ∀ ty, (Instr.next (.pointer (some ⟨W5.heap.size, 0, none⟩)) true ty).run Tryd.prog wr = .ok (.tuple #[.bool true, .int .i64 i, .int .i32 _]) w6 := hnx0
                simp only [UInt8.reduceToNat] at hnx
                have E1 := Lib.hid e1
                have E2 := Lib.hid e2
                have E3 := Lib.hid e3
                clear hnx0 e1 e2 e3 e hsm
              · go_wp2_with fail
                go_roundw
                case rel =>
                  refine ⟨i + 1, Lib.hid ⟨by omega, iter_set HIT.out (by have := HBX.out; show _ ≠ bx; omega) _⟩, Lib.hid ?_, Lib.hid (HM6.out.setCell (fun _ => rfl) _)⟩
                  rw [E1.out, E2.out, E3.out]
                  exact HXB.out.set 1 _
                case measure =>
                  rw [HP.out, iterPos_of (iter_set HIT.out (by have := HBX.out; show _ ≠ bx; omega) _)]
                  omega
              · go_wp2_with fail
                go_roundw
                case rel =>
                  refine ⟨i + 1, Lib.hid ⟨by omega, iter_set HIT.out (by have := HBX.out; show _ ≠ bx; omega) _⟩, Lib.hid ?_, Lib.hid (HM6.out.setCell (fun _ => rfl) _)⟩
                  rw [E1.out, E2.out, E3.out]
                  exact HXB.out.set 2 _
                case measure =>
                  rw [HP.out, iterPos_of (iter_set HIT.out (by have := HBX.out; show _ ≠ bx; omega) _)]
                  omega
              · go_wp2_with fail
                go_roundw
                case rel =>
                  refine ⟨i + 1, Lib.hid ⟨by omega, iter_set HIT.out (by have := HBX.out; show _ ≠ bx; omega) _⟩, Lib.hid ?_, Lib.hid (HM6.out.setCell (fun _ => rfl) _)⟩
                  rw [E1.out, E2.out, E3.out]
                  exact HXB.out.set 3 _
                case measure =>
                  rw [HP.out, iterPos_of (iter_set HIT.out (by have := HBX.out; show _ ≠ bx; omega) _)]
                  omega
            · have hie : i = nm2.size := by have := hi.out.1; omega
              subst hie
              have hfull : nm2.data.toList.take nm2.size = nm2.data.toList := List.take_of_length_le (by simp)
              have hxb7 : Blk wr bx [.int .i64 o, .int .i64 (rdOf k w), .int .i64 (raOf k w), .int .i64 (rbOf k w), .int .i64 0] 23 := by
                have h := hxb.out
                rw [hfull, HNM.out, rd_has w k HK.out, ra_has w k HK.out, rb_has w k HK.out] at h
                exact h
              obtain ⟨rd, hrd⟩ : ∃ rd, rd = rdOf k w := ⟨_, rfl⟩
              obtain ⟨ra, hra⟩ : ∃ ra, ra = raOf k w := ⟨_, rfl⟩
              obtain ⟨rb, hrb⟩ : ∃ rb, rb = rbOf k w := ⟨_, rfl⟩
              rw [← hrd, ← hra, ← hrb] at hxb7
              have HREG : Hid (rd = rdOf k w ∧ ra = raOf k w ∧ rb = rbOf k w) := Lib.hid ⟨hrd, hra, hrb⟩
              have HXB := Lib.hid hxb7
              have hnx : ∀ ty, (Instr.next (.pointer (some ⟨W5.heap.size, 0, none⟩)) true ty).run Tryd.prog wr = .ok (.tuple #[.bool false]) wr := fun ty => Lib.run_next_end_at wr W5.heap.size nm2 nm2.size ty hi.out.2 (by omega)
              have f0 := HB5.out.mods hmx.out (fun e => HBX.out.2.2 e) |>.cell (i := 0) rfl
              have HMXS := Lib.hid hmx.out.size
              have HF1 := Lib.hid (HB5.out.mods hmx.out (fun e => HBX.out.2.2 e))
              have HMX := Lib.hid (HM5.out.trans' (S := fun _ => False) hmx.out (fun j hj hlt => by have := HBX.out; omega))
              clear hrd hra hrb hfull hxb7 hi hxb hmx
              go_wp2_with fail
              refine (pieces_any k _ HK.out).mono ?_
              rintro e w8 ⟨pa, rfl, hpa, hm8, hpn⟩
              obtain ⟨ps, hps⟩ : ∃ ps, ps = piecesOf k := ⟨_, rfl⟩
              rw [← hps] at hpa ⊢
              have HPS := Lib.hid hps
              have HPA := Lib.hid hpa
              have HPN : Hid (∀ x, pa = some x → bx < x.block) := Lib.hid (fun x hx => by have h1 := hpn x hx; have h2 := HXB.out.lt; have h3 := HBX.out; have h4 := HMXS.out; omega)
              have HXB8 := Lib.hid (HXB.out.mods hm8 (fun f => f))
              have HM8 := Lib.hid (HMX.out.trans hm8)
              have HF8 := Lib.hid (HF1.out.mods hm8 (fun f => f))
              have hlen4 : ps.length ≤ 4 := by rw [hps]; rcases HK.out with rfl | rfl | rfl | rfl | rfl | rfl | rfl | rfl <;> decide
              clear hps hpa hm8 f0 hnx hpn
              go_wp2_with fail
              go_loopw [68] (fun v w9 => ∃ j : Nat, j ≤ ps.length ∧ v = .int .i64 j ∧ Hid (Blk w9 bx [.int .i64 o, .int .i64 rd, .int .i64 ra, .int .i64 rb, .int .i64 (gather w (ps.take j))] 23) ∧ Hid (Mods (· = bx) w8 w9)) (fun v _ => (ps.length - intOf v).toNat)
              case atStart => exact ⟨0, by omega, rfl, HXB8, Lib.hid (Mods.refl _ _)⟩
              case round =>
                obtain ⟨j, hj, rfl, hxj, hmj⟩ := hrel
                by_cases hjl : j < ps.length
                · obtain ⟨f, c, t, hp⟩ : ∃ f c t : Nat, ps[j]? = some (f, c, t) := ⟨_, _, _, List.getElem?_eq_getElem hjl⟩
                  obtain ⟨g, rfl, p0, p1, p2⟩ := HPA.out j f c t hp
                  have hgx : g ≠ bx := fun e => by have h := HPN.out _ rfl; simp only [e] at h; omega
                  have p0 := hmj.out.cellOf p0 hgx
                  have p1 := hmj.out.cellOf p1 hgx
                  have p2 := hmj.out.cellOf p2 hgx
                  obtain ⟨hj4, hfc, htc⟩ := piece_bound k HK.out j f c t (by rw [← HPS.out]; exact hp)
                  have HPJ := Lib.hid hp
                  obtain ⟨W7, hW7⟩ : ∃ W7, W7 = wr.alloc (.cells #[.int .i64 f, .int .i64 c, .int .i64 t] 93) := ⟨_, rfl⟩
                  have HB7 : Hid (Blk W7 wr.heap.size [.int .i64 f, .int .i64 c, .int .i64 t] 93) := Lib.hid (by rw [hW7]; exact Blk.new wr _ _)
                  have HM7 : Hid (Mods None wr W7) := Lib.hid (by rw [hW7]; exact (Mods.refl _ _).alloc _)
                  clear hp
                  go_wp2_with fail
                  rw [← hW7]
                  clear hW7 p0 p1 p2
                  have HXJ : Hid (Blk W7 bx [.int .i64 o, .int .i64 rd, .int .i64 ra, .int .i64 rb, .int .i64 (gather w (ps.take j))] 23) := Lib.hid (hxj.out.mods HM7.out (fun f => f))
                  have HMJ : Hid (Mods (· = bx) w8 W7) := Lib.hid (hmj.out.trans (HM7.out.mono fun _ _ f => f.elim))
                  have HSZ : Hid (bx < wr.heap.size) := Lib.hid hxj.out.lt
                  clear hxj hmj
                  have q1 : W7.cell? ⟨wr.heap.size, 1, none⟩ = some (.int .i64 c) := HB7.out.cell rfl
                  go_wp2_with fail
                  clear q1
                  go_loopw [74] (fun v wq => ∃ i : Nat, i ≤ c ∧ v = .int .i64 i ∧ Hid (Blk wq bx [.int .i64 o, .int .i64 rd, .int .i64 ra, .int .i64 rb, .int .i64 (gather w (ps.take j) + w / 2 ^ t % 2 ^ i * 2 ^ f)] 23) ∧ Hid (Mods (· = bx) W7 wq)) (fun v _ => (c - intOf v).toNat)
                  case atStart => exact ⟨0, by omega, rfl, Lib.hid (by simpa using HXJ.out), Lib.hid (Mods.refl _ _)⟩
                  case round =>
                    obtain ⟨i, hi, rfl, hxq, hmq⟩ := hrel
                    by_cases hic : i < c
                    · have hb7 := HB7.out.mods hmq.out (fun e => by have := HSZ.out; omega)
                      have q0 := hb7.cell (i := 0) rfl
                      have q2 := hb7.cell (i := 2) rfl
                      have c4 := hxq.out.cell (i := 4) rfl
                      have cf := hxq.out.free
                      clear hb7
                      go_wp2_with fail
                      go_region
                      go_wp2
                      go_roundw
                      case rel =>
                        refine ⟨i + 1, by omega, by go_num, Lib.hid ?_, Lib.hid ((hmq.out.setCell (fun _ => rfl) _).drew)⟩
                        rw [← bit_step w (gather w (ps.take j)) t i f c hx (by rw [HPS.out]; exact gather_bound w k HK.out j) hic hfc htc]
                        exact (hxq.out.set 4 _).drew
                      case measure => simp [intOf]; omega
                    · obtain rfl : i = c := by omega
                      go_wp2_with fail
                      go_roundw
                      case rel =>
                        refine ⟨j + 1, by omega, by go_num, Lib.hid ?_, Lib.hid (HMJ.out.trans hmq.out)⟩
                        have := hxq.out
                        rw [take_one HPJ.out, gather_snoc]
                        exact this
                      case measure => simp [intOf]; omega
                · obtain rfl : j = ps.length := by omega
                  have hn2 : gather w (ps.take ps.length) = gather w ps := by rw [List.take_length]
                  obtain ⟨N, hN⟩ : ∃ N, N = gather w ps := ⟨_, rfl⟩
                  have HXJ : Hid (Blk wr bx [.int .i64 o, .int .i64 rd, .int .i64 ra, .int .i64 rb, .int .i64 N] 23) := Lib.hid (by rw [hN, ← hn2]; exact hxj.out)
                  have HMJ : Hid (Mods None W0 wr) := Lib.hid (HM8.out.trans' (S := None) hmj.out (fun j hj hlt => by have := HBX.out; omega))
                  have HNN : Hid (signed (bitsOf k) N = nOf k w) := Lib.hid (by rw [hN, HPS.out]; exact n_gather w k HK.out)
                  have hNb : 0 ≤ N ∧ N < 4294967296 := by
                    have := gather_bound w k HK.out 4
                    rw [List.take_of_length_le (by rw [← HPS.out]; exact hlen4), ← HPS.out, ← hN] at this
                    exact this
                  have f0 : wr.cell? ⟨w3.heap.size, 0, none⟩ = some (.int .u8 k) := (HF8.out.mods hmj.out (fun e => HBX.out.2.2 e)).cell rfl
                  have hbc : bitsOf k = 0 ∨ bitsOf k = 12 ∨ bitsOf k = 13 ∨ bitsOf k = 21 ∨ bitsOf k = 32 := by
                    rcases HK.out with rfl | rfl | rfl | rfl | rfl | rfl | rfl | rfl <;> decide
                  obtain ⟨b, hb⟩ : ∃ b, b = bitsOf k := ⟨_, rfl⟩
                  obtain ⟨ob, hob⟩ : ∃ ob, ob = ofOf k := ⟨_, rfl⟩
                  have HS := Lib.hid (signs_any k wr HK.out)
                  rw [← hb] at HNN hbc
                  rw [← hb, ← hob] at HS
                  have c4 := HXJ.out.cell (i := 4) rfl
                  have c0 := HXJ.out.cell (i := 0) rfl
                  have c1 := HXJ.out.cell (i := 1) rfl
                  have c2 := HXJ.out.cell (i := 2) rfl
                  have c3 := HXJ.out.cell (i := 3) rfl
                  have cf := HXJ.out.free
                  clear hn2 hN hxj hmj hb hob
                  go_wp2_with fail
                  refine HS.out.mono ?_
                  rintro e w' ⟨rfl, rfl⟩
                  rcases hbc with rfl | rfl | rfl | rfl | rfl
                  · go_wp2_with fail
                    go_quiet (fail)
                    go_wp2_with fail
                    have HB2 : Hid (Blk (wr.drewN nq) bx [.int .i64 o, .int .i64 rd, .int .i64 ra, .int .i64 rb, .int .i64 (N)] 23) := Lib.hid (HXJ.out.drewN nq)
                    have HM2 : Hid (Mods None W0 (wr.drewN nq)) := Lib.hid (HMJ.out.drewN nq)
                    obtain ⟨W9, hW9⟩ : ∃ W9, W9 = (wr.drewN nq) := ⟨_, rfl⟩
                    rw [← hW9] at HB2 HM2 ⊢
                    clear hW9
                    obtain ⟨N2, hN2⟩ : ∃ N2, N2 = N := ⟨_, rfl⟩
                    rw [← hN2] at HB2 ⊢
                    have HO : Hid (ofWord w o = ⟨o, rd, ra, rb, N2⟩) := Lib.hid (by
                      unfold ofWord
                      rw [← HKO.out, ← HREG.out.1, ← HREG.out.2.1, ← HREG.out.2.2, ← HNN.out, hN2]
                      simp [signed])
                    clear hN2 hNb
                    cases hr : (Ins.mk o rd ra rb N2).right
                    · have hn : Hid (hit w o = false) := Lib.hid (hit_not w o (by rw [HO.out]; exact hr))
                      refine (enc_not (Ins.mk o rd ra rb N2) W9 hr).mono ?_
                      rintro e w10 ⟨rfl, hm10⟩
                      have HM10 := Lib.hid (HM2.out.trans hm10)
                      clear hm10 hr
                      go_wp2
                      go_roundw
                      case rel => exact ⟨o + 1, by omega, rfl, Lib.hid (by rw [hd.out, scan_step ho2, hn.out]; simp), HM10⟩
                      case measure => simp [intOf]; omega
                    · refine (enc_ref (Ins.mk o rd ra rb N2) W9 hr).mono ?_
                      rintro e w10 ⟨rfl, hm10⟩
                      have HM10 := Lib.hid (HM2.out.trans hm10)
                      have hb10 := HB2.out.mods hm10 (fun f => f)
                      have d0 := hb10.cell (i := 0) rfl
                      have d1 := hb10.cell (i := 1) rfl
                      have d2 := hb10.cell (i := 2) rfl
                      have d3 := hb10.cell (i := 3) rfl
                      have d4 := hb10.cell (i := 4) rfl
                      obtain ⟨y, hy⟩ : ∃ y, y = (Ins.mk o rd ra rb N2).word := ⟨_, rfl⟩
                      rw [← hy]
                      have HY := Lib.hid hy
                      have HR := Lib.hid hr
                      clear hm10 hr hb10 hy
                      by_cases hyw : y = w
                      · have hq : (y == w) = true := by simpa using hyw
                        have hn : Hid (dec w = some (Ins.mk o rd ra rb N2)) := Lib.hid (by
                          rw [hd.out, scan_step ho2, if_pos (hit_ref w o (by rw [HO.out]; exact HR.out) (by rw [HO.out, ← HY.out, hyw])), HO.out])
                        clear hyw
                        have hb5 := H5.out.mods HM10.out (fun f => f)
                        have c0 := hb5.cell (i := 0) rfl
                        have c1 := hb5.cell (i := 1) rfl
                        have c2 := hb5.cell (i := 2) rfl
                        have c3 := hb5.cell (i := 3) rfl
                        have c4 := hb5.cell (i := 4) rfl
                        have cf := hb5.free
                        have hg' := Lib.hid (HG.out.trans HM10.out)
                        clear hb5
                        go_wp2
                        refine bodyPost_ret (v := .tuple #[inst o rd ra rb N2, .int .i64 0]) ?_ rfl ⟨ret_ref (refVal_some hn.out), ?_⟩
                        · simp [results, Tryd.results27, go_sem, c0, c1, c2, c3, c4]
                        · repeat (first | (with_reducible refine Mods.setCell ?_ (fun h => absurd h (Nat.lt_irrefl _)) _) | with_reducible exact hg'.out)
                      · have hq : (y == w) = false := by simpa using hyw
                        have hn : Hid (hit w o = false) := Lib.hid (hit_word w o (by rw [HO.out, ← HY.out]; exact hyw))
                        clear hyw
                        go_wp2
                        go_roundw
                        case rel => exact ⟨o + 1, by omega, rfl, Lib.hid (by rw [hd.out, scan_step ho2, hn.out]; simp), HM10⟩
                        case measure => simp [intOf]; omega
                  · by_cases hge : 2048 ≤ N
                    · have hge' : decide (2048 ≤ N) = true := by simpa using hge
                      go_wp2_with fail
                      go_quiet (fail)
                      go_wp2_with fail
                      go_region
                      go_wp2_with fail
                      have HB2 : Hid (Blk ((wr.drewN (nq + 1)).setCell ⟨bx, 4, none⟩ (.int .i64 (N - 4096))) bx [.int .i64 o, .int .i64 rd, .int .i64 ra, .int .i64 rb, .int .i64 (N - 4096)] 23) := Lib.hid ((HXJ.out.drewN (nq + 1)).set 4 _)
                      have HM2 : Hid (Mods None W0 ((wr.drewN (nq + 1)).setCell ⟨bx, 4, none⟩ (.int .i64 (N - 4096)))) := Lib.hid ((HMJ.out.drewN (nq + 1)).setCell (fun h => by have h2 : bx < W0.heap.size := h; have := HBX.out; omega) _)
                      obtain ⟨W9, hW9⟩ : ∃ W9, W9 = ((wr.drewN (nq + 1)).setCell ⟨bx, 4, none⟩ (.int .i64 (N - 4096))) := ⟨_, rfl⟩
                      rw [← hW9] at HB2 HM2 ⊢
                      clear hW9
                      obtain ⟨N2, hN2⟩ : ∃ N2, N2 = N - 4096 := ⟨_, rfl⟩
                      rw [← hN2] at HB2 ⊢
                      have HO : Hid (ofWord w o = ⟨o, rd, ra, rb, N2⟩) := Lib.hid (by
                        unfold ofWord
                        rw [← HKO.out, ← HREG.out.1, ← HREG.out.2.1, ← HREG.out.2.2, ← HNN.out, hN2]
                        simp [signed]; intro h; omega)
                      clear hN2 hNb
                      cases hr : (Ins.mk o rd ra rb N2).right
                      · have hn : Hid (hit w o = false) := Lib.hid (hit_not w o (by rw [HO.out]; exact hr))
                        refine (enc_not (Ins.mk o rd ra rb N2) W9 hr).mono ?_
                        rintro e w10 ⟨rfl, hm10⟩
                        have HM10 := Lib.hid (HM2.out.trans hm10)
                        clear hm10 hr
                        go_wp2
                        go_roundw
                        case rel => exact ⟨o + 1, by omega, rfl, Lib.hid (by rw [hd.out, scan_step ho2, hn.out]; simp), HM10⟩
                        case measure => simp [intOf]; omega
                      · refine (enc_ref (Ins.mk o rd ra rb N2) W9 hr).mono ?_
                        rintro e w10 ⟨rfl, hm10⟩
                        have HM10 := Lib.hid (HM2.out.trans hm10)
                        have hb10 := HB2.out.mods hm10 (fun f => f)
                        have d0 := hb10.cell (i := 0) rfl
                        have d1 := hb10.cell (i := 1) rfl
                        have d2 := hb10.cell (i := 2) rfl
                        have d3 := hb10.cell (i := 3) rfl
                        have d4 := hb10.cell (i := 4) rfl
                        obtain ⟨y, hy⟩ : ∃ y, y = (Ins.mk o rd ra rb N2).word := ⟨_, rfl⟩
                        rw [← hy]
                        have HY := Lib.hid hy
                        have HR := Lib.hid hr
                        clear hm10 hr hb10 hy
                        by_cases hyw : y = w
                        · have hq : (y == w) = true := by simpa using hyw
                          have hn : Hid (dec w = some (Ins.mk o rd ra rb N2)) := Lib.hid (by
                            rw [hd.out, scan_step ho2, if_pos (hit_ref w o (by rw [HO.out]; exact HR.out) (by rw [HO.out, ← HY.out, hyw])), HO.out])
                          clear hyw
                          have hb5 := H5.out.mods HM10.out (fun f => f)
                          have c0 := hb5.cell (i := 0) rfl
                          have c1 := hb5.cell (i := 1) rfl
                          have c2 := hb5.cell (i := 2) rfl
                          have c3 := hb5.cell (i := 3) rfl
                          have c4 := hb5.cell (i := 4) rfl
                          have cf := hb5.free
                          have hg' := Lib.hid (HG.out.trans HM10.out)
                          clear hb5
                          go_wp2
                          refine bodyPost_ret (v := .tuple #[inst o rd ra rb N2, .int .i64 0]) ?_ rfl ⟨ret_ref (refVal_some hn.out), ?_⟩
                          · simp [results, Tryd.results27, go_sem, c0, c1, c2, c3, c4]
                          · repeat (first | (with_reducible refine Mods.setCell ?_ (fun h => absurd h (Nat.lt_irrefl _)) _) | with_reducible exact hg'.out)
                        · have hq : (y == w) = false := by simpa using hyw
                          have hn : Hid (hit w o = false) := Lib.hid (hit_word w o (by rw [HO.out, ← HY.out]; exact hyw))
                          clear hyw
                          go_wp2
                          go_roundw
                          case rel => exact ⟨o + 1, by omega, rfl, Lib.hid (by rw [hd.out, scan_step ho2, hn.out]; simp), HM10⟩
                          case measure => simp [intOf]; omega
                    · have hge' : decide (2048 ≤ N) = false := by simpa using hge
                      go_wp2_with fail
                      go_quiet (fail)
                      go_wp2_with fail
                      have HB2 : Hid (Blk (wr.drewN nq) bx [.int .i64 o, .int .i64 rd, .int .i64 ra, .int .i64 rb, .int .i64 (N)] 23) := Lib.hid (HXJ.out.drewN nq)
                      have HM2 : Hid (Mods None W0 (wr.drewN nq)) := Lib.hid (HMJ.out.drewN nq)
                      obtain ⟨W9, hW9⟩ : ∃ W9, W9 = (wr.drewN nq) := ⟨_, rfl⟩
                      rw [← hW9] at HB2 HM2 ⊢
                      clear hW9
                      obtain ⟨N2, hN2⟩ : ∃ N2, N2 = N := ⟨_, rfl⟩
                      rw [← hN2] at HB2 ⊢
                      have HO : Hid (ofWord w o = ⟨o, rd, ra, rb, N2⟩) := Lib.hid (by
                        unfold ofWord
                        rw [← HKO.out, ← HREG.out.1, ← HREG.out.2.1, ← HREG.out.2.2, ← HNN.out, hN2]
                        simp [signed]; intro h; omega)
                      clear hN2 hNb
                      cases hr : (Ins.mk o rd ra rb N2).right
                      · have hn : Hid (hit w o = false) := Lib.hid (hit_not w o (by rw [HO.out]; exact hr))
                        refine (enc_not (Ins.mk o rd ra rb N2) W9 hr).mono ?_
                        rintro e w10 ⟨rfl, hm10⟩
                        have HM10 := Lib.hid (HM2.out.trans hm10)
                        clear hm10 hr
                        go_wp2
                        go_roundw
                        case rel => exact ⟨o + 1, by omega, rfl, Lib.hid (by rw [hd.out, scan_step ho2, hn.out]; simp), HM10⟩
                        case measure => simp [intOf]; omega
                      · refine (enc_ref (Ins.mk o rd ra rb N2) W9 hr).mono ?_
                        rintro e w10 ⟨rfl, hm10⟩
                        have HM10 := Lib.hid (HM2.out.trans hm10)
                        have hb10 := HB2.out.mods hm10 (fun f => f)
                        have d0 := hb10.cell (i := 0) rfl
                        have d1 := hb10.cell (i := 1) rfl
                        have d2 := hb10.cell (i := 2) rfl
                        have d3 := hb10.cell (i := 3) rfl
                        have d4 := hb10.cell (i := 4) rfl
                        obtain ⟨y, hy⟩ : ∃ y, y = (Ins.mk o rd ra rb N2).word := ⟨_, rfl⟩
                        rw [← hy]
                        have HY := Lib.hid hy
                        have HR := Lib.hid hr
                        clear hm10 hr hb10 hy
                        by_cases hyw : y = w
                        · have hq : (y == w) = true := by simpa using hyw
                          have hn : Hid (dec w = some (Ins.mk o rd ra rb N2)) := Lib.hid (by
                            rw [hd.out, scan_step ho2, if_pos (hit_ref w o (by rw [HO.out]; exact HR.out) (by rw [HO.out, ← HY.out, hyw])), HO.out])
                          clear hyw
                          have hb5 := H5.out.mods HM10.out (fun f => f)
                          have c0 := hb5.cell (i := 0) rfl
                          have c1 := hb5.cell (i := 1) rfl
                          have c2 := hb5.cell (i := 2) rfl
                          have c3 := hb5.cell (i := 3) rfl
                          have c4 := hb5.cell (i := 4) rfl
                          have cf := hb5.free
                          have hg' := Lib.hid (HG.out.trans HM10.out)
                          clear hb5
                          go_wp2
                          refine bodyPost_ret (v := .tuple #[inst o rd ra rb N2, .int .i64 0]) ?_ rfl ⟨ret_ref (refVal_some hn.out), ?_⟩
                          · simp [results, Tryd.results27, go_sem, c0, c1, c2, c3, c4]
                          · repeat (first | (with_reducible refine Mods.setCell ?_ (fun h => absurd h (Nat.lt_irrefl _)) _) | with_reducible exact hg'.out)
                        · have hq : (y == w) = false := by simpa using hyw
                          have hn : Hid (hit w o = false) := Lib.hid (hit_word w o (by rw [HO.out, ← HY.out]; exact hyw))
                          clear hyw
                          go_wp2
                          go_roundw
                          case rel => exact ⟨o + 1, by omega, rfl, Lib.hid (by rw [hd.out, scan_step ho2, hn.out]; simp), HM10⟩
                          case measure => simp [intOf]; omega
                  · by_cases hge : 4096 ≤ N
                    · have hge' : decide (4096 ≤ N) = true := by simpa using hge
                      go_wp2_with fail
                      go_quiet (fail)
                      go_wp2_with fail
                      go_region
                      go_wp2_with fail
                      have HB2 : Hid (Blk ((wr.drewN (nq + 1)).setCell ⟨bx, 4, none⟩ (.int .i64 (N - 8192))) bx [.int .i64 o, .int .i64 rd, .int .i64 ra, .int .i64 rb, .int .i64 (N - 8192)] 23) := Lib.hid ((HXJ.out.drewN (nq + 1)).set 4 _)
                      have HM2 : Hid (Mods None W0 ((wr.drewN (nq + 1)).setCell ⟨bx, 4, none⟩ (.int .i64 (N - 8192)))) := Lib.hid ((HMJ.out.drewN (nq + 1)).setCell (fun h => by have h2 : bx < W0.heap.size := h; have := HBX.out; omega) _)
                      obtain ⟨W9, hW9⟩ : ∃ W9, W9 = ((wr.drewN (nq + 1)).setCell ⟨bx, 4, none⟩ (.int .i64 (N - 8192))) := ⟨_, rfl⟩
                      rw [← hW9] at HB2 HM2 ⊢
                      clear hW9
                      obtain ⟨N2, hN2⟩ : ∃ N2, N2 = N - 8192 := ⟨_, rfl⟩
                      rw [← hN2] at HB2 ⊢
                      have HO : Hid (ofWord w o = ⟨o, rd, ra, rb, N2⟩) := Lib.hid (by
                        unfold ofWord
                        rw [← HKO.out, ← HREG.out.1, ← HREG.out.2.1, ← HREG.out.2.2, ← HNN.out, hN2]
                        simp [signed]; intro h; omega)
                      clear hN2 hNb
                      cases hr : (Ins.mk o rd ra rb N2).right
                      · have hn : Hid (hit w o = false) := Lib.hid (hit_not w o (by rw [HO.out]; exact hr))
                        refine (enc_not (Ins.mk o rd ra rb N2) W9 hr).mono ?_
                        rintro e w10 ⟨rfl, hm10⟩
                        have HM10 := Lib.hid (HM2.out.trans hm10)
                        clear hm10 hr
                        go_wp2
                        go_roundw
                        case rel => exact ⟨o + 1, by omega, rfl, Lib.hid (by rw [hd.out, scan_step ho2, hn.out]; simp), HM10⟩
                        case measure => simp [intOf]; omega
                      · refine (enc_ref (Ins.mk o rd ra rb N2) W9 hr).mono ?_
                        rintro e w10 ⟨rfl, hm10⟩
                        have HM10 := Lib.hid (HM2.out.trans hm10)
                        have hb10 := HB2.out.mods hm10 (fun f => f)
                        have d0 := hb10.cell (i := 0) rfl
                        have d1 := hb10.cell (i := 1) rfl
                        have d2 := hb10.cell (i := 2) rfl
                        have d3 := hb10.cell (i := 3) rfl
                        have d4 := hb10.cell (i := 4) rfl
                        obtain ⟨y, hy⟩ : ∃ y, y = (Ins.mk o rd ra rb N2).word := ⟨_, rfl⟩
                        rw [← hy]
                        have HY := Lib.hid hy
                        have HR := Lib.hid hr
                        clear hm10 hr hb10 hy
                        by_cases hyw : y = w
                        · have hq : (y == w) = true := by simpa using hyw
                          have hn : Hid (dec w = some (Ins.mk o rd ra rb N2)) := Lib.hid (by
                            rw [hd.out, scan_step ho2, if_pos (hit_ref w o (by rw [HO.out]; exact HR.out) (by rw [HO.out, ← HY.out, hyw])), HO.out])
                          clear hyw
                          have hb5 := H5.out.mods HM10.out (fun f => f)
                          have c0 := hb5.cell (i := 0) rfl
                          have c1 := hb5.cell (i := 1) rfl
                          have c2 := hb5.cell (i := 2) rfl
                          have c3 := hb5.cell (i := 3) rfl
                          have c4 := hb5.cell (i := 4) rfl
                          have cf := hb5.free
                          have hg' := Lib.hid (HG.out.trans HM10.out)
                          clear hb5
                          go_wp2
                          refine bodyPost_ret (v := .tuple #[inst o rd ra rb N2, .int .i64 0]) ?_ rfl ⟨ret_ref (refVal_some hn.out), ?_⟩
                          · simp [results, Tryd.results27, go_sem, c0, c1, c2, c3, c4]
                          · repeat (first | (with_reducible refine Mods.setCell ?_ (fun h => absurd h (Nat.lt_irrefl _)) _) | with_reducible exact hg'.out)
                        · have hq : (y == w) = false := by simpa using hyw
                          have hn : Hid (hit w o = false) := Lib.hid (hit_word w o (by rw [HO.out, ← HY.out]; exact hyw))
                          clear hyw
                          go_wp2
                          go_roundw
                          case rel => exact ⟨o + 1, by omega, rfl, Lib.hid (by rw [hd.out, scan_step ho2, hn.out]; simp), HM10⟩
                          case measure => simp [intOf]; omega
                    · have hge' : decide (4096 ≤ N) = false := by simpa using hge
                      go_wp2_with fail
                      go_quiet (fail)
                      go_wp2_with fail
                      have HB2 : Hid (Blk (wr.drewN nq) bx [.int .i64 o, .int .i64 rd, .int .i64 ra, .int .i64 rb, .int .i64 (N)] 23) := Lib.hid (HXJ.out.drewN nq)
                      have HM2 : Hid (Mods None W0 (wr.drewN nq)) := Lib.hid (HMJ.out.drewN nq)
                      obtain ⟨W9, hW9⟩ : ∃ W9, W9 = (wr.drewN nq) := ⟨_, rfl⟩
                      rw [← hW9] at HB2 HM2 ⊢
                      clear hW9
                      obtain ⟨N2, hN2⟩ : ∃ N2, N2 = N := ⟨_, rfl⟩
                      rw [← hN2] at HB2 ⊢
                      have HO : Hid (ofWord w o = ⟨o, rd, ra, rb, N2⟩) := Lib.hid (by
                        unfold ofWord
                        rw [← HKO.out, ← HREG.out.1, ← HREG.out.2.1, ← HREG.out.2.2, ← HNN.out, hN2]
                        simp [signed]; intro h; omega)
                      clear hN2 hNb
                      cases hr : (Ins.mk o rd ra rb N2).right
                      · have hn : Hid (hit w o = false) := Lib.hid (hit_not w o (by rw [HO.out]; exact hr))
                        refine (enc_not (Ins.mk o rd ra rb N2) W9 hr).mono ?_
                        rintro e w10 ⟨rfl, hm10⟩
                        have HM10 := Lib.hid (HM2.out.trans hm10)
                        clear hm10 hr
                        go_wp2
                        go_roundw
                        case rel => exact ⟨o + 1, by omega, rfl, Lib.hid (by rw [hd.out, scan_step ho2, hn.out]; simp), HM10⟩
                        case measure => simp [intOf]; omega
                      · refine (enc_ref (Ins.mk o rd ra rb N2) W9 hr).mono ?_
                        rintro e w10 ⟨rfl, hm10⟩
                        have HM10 := Lib.hid (HM2.out.trans hm10)
                        have hb10 := HB2.out.mods hm10 (fun f => f)
                        have d0 := hb10.cell (i := 0) rfl
                        have d1 := hb10.cell (i := 1) rfl
                        have d2 := hb10.cell (i := 2) rfl
                        have d3 := hb10.cell (i := 3) rfl
                        have d4 := hb10.cell (i := 4) rfl
                        obtain ⟨y, hy⟩ : ∃ y, y = (Ins.mk o rd ra rb N2).word := ⟨_, rfl⟩
                        rw [← hy]
                        have HY := Lib.hid hy
                        have HR := Lib.hid hr
                        clear hm10 hr hb10 hy
                        by_cases hyw : y = w
                        · have hq : (y == w) = true := by simpa using hyw
                          have hn : Hid (dec w = some (Ins.mk o rd ra rb N2)) := Lib.hid (by
                            rw [hd.out, scan_step ho2, if_pos (hit_ref w o (by rw [HO.out]; exact HR.out) (by rw [HO.out, ← HY.out, hyw])), HO.out])
                          clear hyw
                          have hb5 := H5.out.mods HM10.out (fun f => f)
                          have c0 := hb5.cell (i := 0) rfl
                          have c1 := hb5.cell (i := 1) rfl
                          have c2 := hb5.cell (i := 2) rfl
                          have c3 := hb5.cell (i := 3) rfl
                          have c4 := hb5.cell (i := 4) rfl
                          have cf := hb5.free
                          have hg' := Lib.hid (HG.out.trans HM10.out)
                          clear hb5
                          go_wp2
                          refine bodyPost_ret (v := .tuple #[inst o rd ra rb N2, .int .i64 0]) ?_ rfl ⟨ret_ref (refVal_some hn.out), ?_⟩
                          · simp [results, Tryd.results27, go_sem, c0, c1, c2, c3, c4]
                          · repeat (first | (with_reducible refine Mods.setCell ?_ (fun h => absurd h (Nat.lt_irrefl _)) _) | with_reducible exact hg'.out)
                        · have hq : (y == w) = false := by simpa using hyw
                          have hn : Hid (hit w o = false) := Lib.hid (hit_word w o (by rw [HO.out, ← HY.out]; exact hyw))
                          clear hyw
                          go_wp2
                          go_roundw
                          case rel => exact ⟨o + 1, by omega, rfl, Lib.hid (by rw [hd.out, scan_step ho2, hn.out]; simp), HM10⟩
                          case measure => simp [intOf]; omega
                  · by_cases hge : 1048576 ≤ N
                    · have hge' : decide (1048576 ≤ N) = true := by simpa using hge
                      go_wp2_with fail
                      go_quiet (fail)
                      go_wp2_with fail
                      go_region
                      go_wp2_with fail
                      have HB2 : Hid (Blk ((wr.drewN (nq + 1)).setCell ⟨bx, 4, none⟩ (.int .i64 (N - 2097152))) bx [.int .i64 o, .int .i64 rd, .int .i64 ra, .int .i64 rb, .int .i64 (N - 2097152)] 23) := Lib.hid ((HXJ.out.drewN (nq + 1)).set 4 _)
                      have HM2 : Hid (Mods None W0 ((wr.drewN (nq + 1)).setCell ⟨bx, 4, none⟩ (.int .i64 (N - 2097152)))) := Lib.hid ((HMJ.out.drewN (nq + 1)).setCell (fun h => by have h2 : bx < W0.heap.size := h; have := HBX.out; omega) _)
                      obtain ⟨W9, hW9⟩ : ∃ W9, W9 = ((wr.drewN (nq + 1)).setCell ⟨bx, 4, none⟩ (.int .i64 (N - 2097152))) := ⟨_, rfl⟩
                      rw [← hW9] at HB2 HM2 ⊢
                      clear hW9
                      obtain ⟨N2, hN2⟩ : ∃ N2, N2 = N - 2097152 := ⟨_, rfl⟩
                      rw [← hN2] at HB2 ⊢
                      have HO : Hid (ofWord w o = ⟨o, rd, ra, rb, N2⟩) := Lib.hid (by
                        unfold ofWord
                        rw [← HKO.out, ← HREG.out.1, ← HREG.out.2.1, ← HREG.out.2.2, ← HNN.out, hN2]
                        simp [signed]; intro h; omega)
                      clear hN2 hNb
                      cases hr : (Ins.mk o rd ra rb N2).right
                      · have hn : Hid (hit w o = false) := Lib.hid (hit_not w o (by rw [HO.out]; exact hr))
                        refine (enc_not (Ins.mk o rd ra rb N2) W9 hr).mono ?_
                        rintro e w10 ⟨rfl, hm10⟩
                        have HM10 := Lib.hid (HM2.out.trans hm10)
                        clear hm10 hr
                        go_wp2
                        go_roundw
                        case rel => exact ⟨o + 1, by omega, rfl, Lib.hid (by rw [hd.out, scan_step ho2, hn.out]; simp), HM10⟩
                        case measure => simp [intOf]; omega
                      · refine (enc_ref (Ins.mk o rd ra rb N2) W9 hr).mono ?_
                        rintro e w10 ⟨rfl, hm10⟩
                        have HM10 := Lib.hid (HM2.out.trans hm10)
                        have hb10 := HB2.out.mods hm10 (fun f => f)
                        have d0 := hb10.cell (i := 0) rfl
                        have d1 := hb10.cell (i := 1) rfl
                        have d2 := hb10.cell (i := 2) rfl
                        have d3 := hb10.cell (i := 3) rfl
                        have d4 := hb10.cell (i := 4) rfl
                        obtain ⟨y, hy⟩ : ∃ y, y = (Ins.mk o rd ra rb N2).word := ⟨_, rfl⟩
                        rw [← hy]
                        have HY := Lib.hid hy
                        have HR := Lib.hid hr
                        clear hm10 hr hb10 hy
                        by_cases hyw : y = w
                        · have hq : (y == w) = true := by simpa using hyw
                          have hn : Hid (dec w = some (Ins.mk o rd ra rb N2)) := Lib.hid (by
                            rw [hd.out, scan_step ho2, if_pos (hit_ref w o (by rw [HO.out]; exact HR.out) (by rw [HO.out, ← HY.out, hyw])), HO.out])
                          clear hyw
                          have hb5 := H5.out.mods HM10.out (fun f => f)
                          have c0 := hb5.cell (i := 0) rfl
                          have c1 := hb5.cell (i := 1) rfl
                          have c2 := hb5.cell (i := 2) rfl
                          have c3 := hb5.cell (i := 3) rfl
                          have c4 := hb5.cell (i := 4) rfl
                          have cf := hb5.free
                          have hg' := Lib.hid (HG.out.trans HM10.out)
                          clear hb5
                          go_wp2
                          refine bodyPost_ret (v := .tuple #[inst o rd ra rb N2, .int .i64 0]) ?_ rfl ⟨ret_ref (refVal_some hn.out), ?_⟩
                          · simp [results, Tryd.results27, go_sem, c0, c1, c2, c3, c4]
                          · repeat (first | (with_reducible refine Mods.setCell ?_ (fun h => absurd h (Nat.lt_irrefl _)) _) | with_reducible exact hg'.out)
                        · have hq : (y == w) = false := by simpa using hyw
                          have hn : Hid (hit w o = false) := Lib.hid (hit_word w o (by rw [HO.out, ← HY.out]; exact hyw))
                          clear hyw
                          go_wp2
                          go_roundw
                          case rel => exact ⟨o + 1, by omega, rfl, Lib.hid (by rw [hd.out, scan_step ho2, hn.out]; simp), HM10⟩
                          case measure => simp [intOf]; omega
                    · have hge' : decide (1048576 ≤ N) = false := by simpa using hge
                      go_wp2_with fail
                      go_quiet (fail)
                      go_wp2_with fail
                      have HB2 : Hid (Blk (wr.drewN nq) bx [.int .i64 o, .int .i64 rd, .int .i64 ra, .int .i64 rb, .int .i64 (N)] 23) := Lib.hid (HXJ.out.drewN nq)
                      have HM2 : Hid (Mods None W0 (wr.drewN nq)) := Lib.hid (HMJ.out.drewN nq)
                      obtain ⟨W9, hW9⟩ : ∃ W9, W9 = (wr.drewN nq) := ⟨_, rfl⟩
                      rw [← hW9] at HB2 HM2 ⊢
                      clear hW9
                      obtain ⟨N2, hN2⟩ : ∃ N2, N2 = N := ⟨_, rfl⟩
                      rw [← hN2] at HB2 ⊢
                      have HO : Hid (ofWord w o = ⟨o, rd, ra, rb, N2⟩) := Lib.hid (by
                        unfold ofWord
                        rw [← HKO.out, ← HREG.out.1, ← HREG.out.2.1, ← HREG.out.2.2, ← HNN.out, hN2]
                        simp [signed]; intro h; omega)
                      clear hN2 hNb
                      cases hr : (Ins.mk o rd ra rb N2).right
                      · have hn : Hid (hit w o = false) := Lib.hid (hit_not w o (by rw [HO.out]; exact hr))
                        refine (enc_not (Ins.mk o rd ra rb N2) W9 hr).mono ?_
                        rintro e w10 ⟨rfl, hm10⟩
                        have HM10 := Lib.hid (HM2.out.trans hm10)
                        clear hm10 hr
                        go_wp2
                        go_roundw
                        case rel => exact ⟨o + 1, by omega, rfl, Lib.hid (by rw [hd.out, scan_step ho2, hn.out]; simp), HM10⟩
                        case measure => simp [intOf]; omega
                      · refine (enc_ref (Ins.mk o rd ra rb N2) W9 hr).mono ?_
                        rintro e w10 ⟨rfl, hm10⟩
                        have HM10 := Lib.hid (HM2.out.trans hm10)
                        have hb10 := HB2.out.mods hm10 (fun f => f)
                        have d0 := hb10.cell (i := 0) rfl
                        have d1 := hb10.cell (i := 1) rfl
                        have d2 := hb10.cell (i := 2) rfl
                        have d3 := hb10.cell (i := 3) rfl
                        have d4 := hb10.cell (i := 4) rfl
                        obtain ⟨y, hy⟩ : ∃ y, y = (Ins.mk o rd ra rb N2).word := ⟨_, rfl⟩
                        rw [← hy]
                        have HY := Lib.hid hy
                        have HR := Lib.hid hr
                        clear hm10 hr hb10 hy
                        by_cases hyw : y = w
                        · have hq : (y == w) = true := by simpa using hyw
                          have hn : Hid (dec w = some (Ins.mk o rd ra rb N2)) := Lib.hid (by
                            rw [hd.out, scan_step ho2, if_pos (hit_ref w o (by rw [HO.out]; exact HR.out) (by rw [HO.out, ← HY.out, hyw])), HO.out])
                          clear hyw
                          have hb5 := H5.out.mods HM10.out (fun f => f)
                          have c0 := hb5.cell (i := 0) rfl
                          have c1 := hb5.cell (i := 1) rfl
                          have c2 := hb5.cell (i := 2) rfl
                          have c3 := hb5.cell (i := 3) rfl
                          have c4 := hb5.cell (i := 4) rfl
                          have cf := hb5.free
                          have hg' := Lib.hid (HG.out.trans HM10.out)
                          clear hb5
                          go_wp2
                          refine bodyPost_ret (v := .tuple #[inst o rd ra rb N2, .int .i64 0]) ?_ rfl ⟨ret_ref (refVal_some hn.out), ?_⟩
                          · simp [results, Tryd.results27, go_sem, c0, c1, c2, c3, c4]
                          · repeat (first | (with_reducible refine Mods.setCell ?_ (fun h => absurd h (Nat.lt_irrefl _)) _) | with_reducible exact hg'.out)
                        · have hq : (y == w) = false := by simpa using hyw
                          have hn : Hid (hit w o = false) := Lib.hid (hit_word w o (by rw [HO.out, ← HY.out]; exact hyw))
                          clear hyw
                          go_wp2
                          go_roundw
                          case rel => exact ⟨o + 1, by omega, rfl, Lib.hid (by rw [hd.out, scan_step ho2, hn.out]; simp), HM10⟩
                          case measure => simp [intOf]; omega
                  · by_cases hge : 2147483648 ≤ N
                    · have hge' : decide (2147483648 ≤ N) = true := by simpa using hge
                      go_wp2_with fail
                      go_quiet (fail)
                      go_wp2_with fail
                      go_region
                      go_wp2_with fail
                      have HB2 : Hid (Blk ((wr.drewN (nq + 1)).setCell ⟨bx, 4, none⟩ (.int .i64 (N - 4294967296))) bx [.int .i64 o, .int .i64 rd, .int .i64 ra, .int .i64 rb, .int .i64 (N - 4294967296)] 23) := Lib.hid ((HXJ.out.drewN (nq + 1)).set 4 _)
                      have HM2 : Hid (Mods None W0 ((wr.drewN (nq + 1)).setCell ⟨bx, 4, none⟩ (.int .i64 (N - 4294967296)))) := Lib.hid ((HMJ.out.drewN (nq + 1)).setCell (fun h => by have h2 : bx < W0.heap.size := h; have := HBX.out; omega) _)
                      obtain ⟨W9, hW9⟩ : ∃ W9, W9 = ((wr.drewN (nq + 1)).setCell ⟨bx, 4, none⟩ (.int .i64 (N - 4294967296))) := ⟨_, rfl⟩
                      rw [← hW9] at HB2 HM2 ⊢
                      clear hW9
                      obtain ⟨N2, hN2⟩ : ∃ N2, N2 = N - 4294967296 := ⟨_, rfl⟩
                      rw [← hN2] at HB2 ⊢
                      have HO : Hid (ofWord w o = ⟨o, rd, ra, rb, N2⟩) := Lib.hid (by
                        unfold ofWord
                        rw [← HKO.out, ← HREG.out.1, ← HREG.out.2.1, ← HREG.out.2.2, ← HNN.out, hN2]
                        simp [signed]; intro h; omega)
                      clear hN2 hNb
                      cases hr : (Ins.mk o rd ra rb N2).right
                      · have hn : Hid (hit w o = false) := Lib.hid (hit_not w o (by rw [HO.out]; exact hr))
                        refine (enc_not (Ins.mk o rd ra rb N2) W9 hr).mono ?_
                        rintro e w10 ⟨rfl, hm10⟩
                        have HM10 := Lib.hid (HM2.out.trans hm10)
                        clear hm10 hr
                        go_wp2
                        go_roundw
                        case rel => exact ⟨o + 1, by omega, rfl, Lib.hid (by rw [hd.out, scan_step ho2, hn.out]; simp), HM10⟩
                        case measure => simp [intOf]; omega
                      · refine (enc_ref (Ins.mk o rd ra rb N2) W9 hr).mono ?_
                        rintro e w10 ⟨rfl, hm10⟩
                        have HM10 := Lib.hid (HM2.out.trans hm10)
                        have hb10 := HB2.out.mods hm10 (fun f => f)
                        have d0 := hb10.cell (i := 0) rfl
                        have d1 := hb10.cell (i := 1) rfl
                        have d2 := hb10.cell (i := 2) rfl
                        have d3 := hb10.cell (i := 3) rfl
                        have d4 := hb10.cell (i := 4) rfl
                        obtain ⟨y, hy⟩ : ∃ y, y = (Ins.mk o rd ra rb N2).word := ⟨_, rfl⟩
                        rw [← hy]
                        have HY := Lib.hid hy
                        have HR := Lib.hid hr
                        clear hm10 hr hb10 hy
                        by_cases hyw : y = w
                        · have hq : (y == w) = true := by simpa using hyw
                          have hn : Hid (dec w = some (Ins.mk o rd ra rb N2)) := Lib.hid (by
                            rw [hd.out, scan_step ho2, if_pos (hit_ref w o (by rw [HO.out]; exact HR.out) (by rw [HO.out, ← HY.out, hyw])), HO.out])
                          clear hyw
                          have hb5 := H5.out.mods HM10.out (fun f => f)
                          have c0 := hb5.cell (i := 0) rfl
                          have c1 := hb5.cell (i := 1) rfl
                          have c2 := hb5.cell (i := 2) rfl
                          have c3 := hb5.cell (i := 3) rfl
                          have c4 := hb5.cell (i := 4) rfl
                          have cf := hb5.free
                          have hg' := Lib.hid (HG.out.trans HM10.out)
                          clear hb5
                          go_wp2
                          refine bodyPost_ret (v := .tuple #[inst o rd ra rb N2, .int .i64 0]) ?_ rfl ⟨ret_ref (refVal_some hn.out), ?_⟩
                          · simp [results, Tryd.results27, go_sem, c0, c1, c2, c3, c4]
                          · repeat (first | (with_reducible refine Mods.setCell ?_ (fun h => absurd h (Nat.lt_irrefl _)) _) | with_reducible exact hg'.out)
                        · have hq : (y == w) = false := by simpa using hyw
                          have hn : Hid (hit w o = false) := Lib.hid (hit_word w o (by rw [HO.out, ← HY.out]; exact hyw))
                          clear hyw
                          go_wp2
                          go_roundw
                          case rel => exact ⟨o + 1, by omega, rfl, Lib.hid (by rw [hd.out, scan_step ho2, hn.out]; simp), HM10⟩
                          case measure => simp [intOf]; omega
                    · have hge' : decide (2147483648 ≤ N) = false := by simpa using hge
                      go_wp2_with fail
                      go_quiet (fail)
                      go_wp2_with fail
                      have HB2 : Hid (Blk (wr.drewN nq) bx [.int .i64 o, .int .i64 rd, .int .i64 ra, .int .i64 rb, .int .i64 (N)] 23) := Lib.hid (HXJ.out.drewN nq)
                      have HM2 : Hid (Mods None W0 (wr.drewN nq)) := Lib.hid (HMJ.out.drewN nq)
                      obtain ⟨W9, hW9⟩ : ∃ W9, W9 = (wr.drewN nq) := ⟨_, rfl⟩
                      rw [← hW9] at HB2 HM2 ⊢
                      clear hW9
                      obtain ⟨N2, hN2⟩ : ∃ N2, N2 = N := ⟨_, rfl⟩
                      rw [← hN2] at HB2 ⊢
                      have HO : Hid (ofWord w o = ⟨o, rd, ra, rb, N2⟩) := Lib.hid (by
                        unfold ofWord
                        rw [← HKO.out, ← HREG.out.1, ← HREG.out.2.1, ← HREG.out.2.2, ← HNN.out, hN2]
                        simp [signed]; intro h; omega)
                      clear hN2 hNb
                      cases hr : (Ins.mk o rd ra rb N2).right
                      · have hn : Hid (hit w o = false) := Lib.hid (hit_not w o (by rw [HO.out]; exact hr))
                        refine (enc_not (Ins.mk o rd ra rb N2) W9 hr).mono ?_
                        rintro e w10 ⟨rfl, hm10⟩
                        have HM10 := Lib.hid (HM2.out.trans hm10)
                        clear hm10 hr
                        go_wp2
                        go_roundw
                        case rel => exact ⟨o + 1, by omega, rfl, Lib.hid (by rw [hd.out, scan_step ho2, hn.out]; simp), HM10⟩
                        case measure => simp [intOf]; omega
                      · refine (enc_ref (Ins.mk o rd ra rb N2) W9 hr).mono ?_
                        rintro e w10 ⟨rfl, hm10⟩
                        have HM10 := Lib.hid (HM2.out.trans hm10)
                        have hb10 := HB2.out.mods hm10 (fun f => f)
                        have d0 := hb10.cell (i := 0) rfl
                        have d1 := hb10.cell (i := 1) rfl
                        have d2 := hb10.cell (i := 2) rfl
                        have d3 := hb10.cell (i := 3) rfl
                        have d4 := hb10.cell (i := 4) rfl
                        obtain ⟨y, hy⟩ : ∃ y, y = (Ins.mk o rd ra rb N2).word := ⟨_, rfl⟩
                        rw [← hy]
                        have HY := Lib.hid hy
                        have HR := Lib.hid hr
                        clear hm10 hr hb10 hy
                        by_cases hyw : y = w
                        · have hq : (y == w) = true := by simpa using hyw
                          have hn : Hid (dec w = some (Ins.mk o rd ra rb N2)) := Lib.hid (by
                            rw [hd.out, scan_step ho2, if_pos (hit_ref w o (by rw [HO.out]; exact HR.out) (by rw [HO.out, ← HY.out, hyw])), HO.out])
                          clear hyw
                          have hb5 := H5.out.mods HM10.out (fun f => f)
                          have c0 := hb5.cell (i := 0) rfl
                          have c1 := hb5.cell (i := 1) rfl
                          have c2 := hb5.cell (i := 2) rfl
                          have c3 := hb5.cell (i := 3) rfl
                          have c4 := hb5.cell (i := 4) rfl
                          have cf := hb5.free
                          have hg' := Lib.hid (HG.out.trans HM10.out)
                          clear hb5
                          go_wp2
                          refine bodyPost_ret (v := .tuple #[inst o rd ra rb N2, .int .i64 0]) ?_ rfl ⟨ret_ref (refVal_some hn.out), ?_⟩
                          · simp [results, Tryd.results27, go_sem, c0, c1, c2, c3, c4]
                          · repeat (first | (with_reducible refine Mods.setCell ?_ (fun h => absurd h (Nat.lt_irrefl _)) _) | with_reducible exact hg'.out)
                        · have hq : (y == w) = false := by simpa using hyw
                          have hn : Hid (hit w o = false) := Lib.hid (hit_word w o (by rw [HO.out, ← HY.out]; exact hyw))
                          clear hyw
                          go_wp2
                          go_roundw
                          case rel => exact ⟨o + 1, by omega, rfl, Lib.hid (by rw [hd.out, scan_step ho2, hn.out]; simp), HM10⟩
                          case measure => simp [intOf]; omega
        · have hl' : (w % 128 != l) = true := by simp; omega
          have hn : Hid (hit w o = false) := Lib.hid (by rw [HLO.out] at hlow; exact hit_low w o hlow)
          clear hlow
          go_wp2
          rw [← hW4]
          go_roundw
          case rel => exact ⟨o + 1, by omega, rfl, Lib.hid (by rw [hd.out, scan_step ho2, hn.out]; simp), HM4⟩
          case measure => simp [intOf]; omega
end Go.Proofs.YtgeajgdddjjjnaaDoor.RefP
