/- The reference's writing of an instruction: PrintInst. Conditions: the tables lie. -/
import Derived.Test.YtodgkbcgdbhpeaaGreatDoorAsRp
import Derived.Test.YtodgkbcgdbhpeaaGreatDoorRefRight
namespace Go.Proofs.YtodgkbcgdbhpeaaGreatDoor.AsmP
open Go.RowKit Go.Proofs.YtodgkbcgdbhpeaaGreatDoor.WordP Go.Proofs.YtodgkbcgdbhpeaaGreatDoor.Wo
set_option linter.unusedVariables false
set_option linter.unusedSimpArgs false
/-- What stands behind a name, part by part. -/
def wrT (L : List (List UInt8)) : List UInt8 := match L with
  | [] => []
  | p :: r => 32 :: (p ++ Lib.joinTail [44] r)
theorem wrT_add (L : List (List UInt8)) (q : List UInt8) : wrT (L ++ [q]) = wrT L ++ (if L = [] then 32 else 44) :: q := by
  cases L with
  | nil => simp [wrT, Lib.joinTail]
  | cons p r => simp [wrT, Lib.joinTail]
theorem printB_wr (x : Ins) : printB x = opName x.op ++ wrT ((partsOf x.op).map (pieceT x)) := by
  unfold printB
  cases h : partsOf x.op with
  | nil => simp [wrT]
  | cons c r =>
    rw [if_neg (by simp), List.map_cons, Lib.join_cons]
    simp [wrT]
theorem wrT_len {L : List (List UInt8)} (h : ∀ p ∈ L, p.length ≤ 50) : (wrT L).length ≤ 51 * L.length := by
  have ht : ∀ r : List (List UInt8), (∀ p ∈ r, p.length ≤ 50) → (Lib.joinTail [44] r).length ≤ 51 * r.length := by
    intro r
    induction r with
    | nil => intro _; simp [Lib.joinTail]
    | cons q r ih =>
      intro hq
      have h1 := ih (fun p hp => hq p (by simp [hp]))
      have h2 := hq q (by simp)
      unfold Lib.joinTail at *
      simp only [List.map_cons, List.flatten_cons, List.length_append, List.length_cons, List.length_nil] at *
      omega
  cases L with
  | nil => simp [wrT]
  | cons p r =>
    have h1 := ht r (fun q hq => h q (by simp [hq]))
    have h2 := h p (by simp)
    simp only [wrT, List.length_cons, List.length_append]
    omega
/-- What PrintInst answers. -/
def PrintQ (x : Ins) (W : World) (e : Ending) (w : World) : Prop := e = .returned (if x.right = true then .tuple #[str (printB x), .int .i64 0] else .tuple #[str [], .int .i64 1]) ∧ Mods None W w
/-- Where its loop stands. -/
structure PrAt (W : World) (x : Ins) (pb : ByteArray) (it bx : Nat) (i : Nat) (sv : Value) (wr : World) : Prop where
  at_ : wr.heap[it]? = some (.stringIter pb i)
  box : Blk wr bx (instCells x.op x.rd x.ra x.rb x.n).toList 30
  txt : sv = .string ⟨(opName x.op ++ wrT (((partsOf x.op).take i).map (pieceT x))).toArray⟩
  mods : Mods None W wr
theorem pr_txt {x : Ins} {i : Nat} {c : UInt8} (hc : (partsOf x.op)[i]? = some c) : opName x.op ++ wrT (((partsOf x.op).take (i + 1)).map (pieceT x)) = (opName x.op ++ wrT (((partsOf x.op).take i).map (pieceT x))) ++ (if i = 0 then 32 else 44) :: pieceT x c := by
  have hi := (List.getElem?_eq_some_iff.1 hc).1
  rw [List.take_add_one, hc, List.map_append]
  simp only [Option.toList_some, List.map_cons, List.map_nil]
  rw [wrT_add, ← List.append_assoc]
  congr 2
  have : ((partsOf x.op).take i).map (pieceT x) = [] ↔ i = 0 := by
    rw [List.map_eq_nil_iff, List.take_eq_nil_iff]
    constructor
    · rintro (h | h)
      · exact h
      · rw [h] at hi; simp at hi
    · exact fun h => .inl h
  by_cases h : i = 0
  · rw [if_pos (this.2 h), if_pos h]
  · rw [if_neg (fun e => h (this.1 e)), if_neg h]
theorem pr_cat0 (sx p : List UInt8) (s : UInt8) : (⟨sx.toArray⟩ : ByteArray) ++ ((⟨#[s]⟩ : ByteArray) ++ ⟨p.toArray⟩) = ⟨(sx ++ s :: p).toArray⟩ := by
  rw [show (⟨#[s]⟩ : ByteArray) = ⟨([s] : List UInt8).toArray⟩ from rfl, ba_append, ba_append]
  rfl
theorem pr_cat1 (sx p : List UInt8) (s : UInt8) : (⟨sx.toArray⟩ : ByteArray) ++ ((⟨#[s]⟩ : ByteArray) ++ ((⟨#[120]⟩ : ByteArray) ++ ⟨p.toArray⟩)) = ⟨(sx ++ s :: 120 :: p).toArray⟩ := by
  rw [show (⟨#[120]⟩ : ByteArray) = ⟨([120] : List UInt8).toArray⟩ from rfl, ba_append, pr_cat0]
  rfl
theorem pr_cat2 (sx n p : List UInt8) (s : UInt8) : (⟨sx.toArray⟩ : ByteArray) ++ ((⟨#[s]⟩ : ByteArray) ++ ((⟨n.toArray⟩ : ByteArray) ++ (((⟨#[40, 120]⟩ : ByteArray) ++ ⟨p.toArray⟩) ++ ⟨#[41]⟩))) = ⟨(sx ++ s :: (n ++ [40] ++ (120 :: p) ++ [41])).toArray⟩ := by
  rw [show (⟨#[40, 120]⟩ : ByteArray) = ⟨([40, 120] : List UInt8).toArray⟩ from rfl, show (⟨#[41]⟩ : ByteArray) = ⟨([41] : List UInt8).toArray⟩ from rfl, ba_append [40, 120] p, ba_append ([40, 120] ++ p) [41], ba_append n ([40, 120] ++ p ++ [41]), pr_cat0]
  simp
set_option maxRecDepth 100000 in
set_option maxHeartbeats 8000000 in
theorem print_ref (x : Ins) (hx : I64s x) (W : World) (hB : Base W) : Calls Tryz.prog 18 #[x.val] W (PrintQ x W) := by
  obtain ⟨W1, hW1⟩ : ∃ W1, W1 = W.alloc (.cells (instCells x.op x.rd x.ra x.rb x.n) 30) := ⟨_, rfl⟩
  have hm1 : Mods None W W1 := by rw [hW1]; exact (Mods.refl _ _).alloc _
  have hb1 : Blk W1 W.heap.size (instCells x.op x.rd x.ra x.rb x.n).toList 30 := by rw [hW1]; exact Blk.new W _ _
  obtain ⟨bx, hbx⟩ : ∃ bx, bx = W.heap.size := ⟨_, rfl⟩
  rw [← hbx] at hb1
  have HR := Lib.hid (RefP.right_ref x W1)
  have HB := Lib.hid hB
  have HM1 := Lib.hid hm1
  have HB1 := Lib.hid hb1
  have HX := Lib.hid hx
  have HBX := Lib.hid hbx
  have q0 := hb1.cell (i := 0) rfl
  have q1 := hb1.cell (i := 1) rfl
  have q2 := hb1.cell (i := 2) rfl
  have q3 := hb1.cell (i := 3) rfl
  have q4 := hb1.cell (i := 4) rfl
  obtain ⟨rt, hrt⟩ : ∃ rt, rt = x.right := ⟨_, rfl⟩
  have HRT := Lib.hid hrt
  rw [← hrt] at HR
  clear hrt hB hm1 hb1 hx
  obtain ⟨op, rd, ra, rb, n⟩ := x
  unfold Ins.val inst instCells at *
  simp only at *
  go_enter Tryz.func18, Tryz.ntmps18
  go_upto_region 1 with (fail)
  rw [← hW1, ← hbx]
  clear hW1 hbx
  go_wp2_with fail
  refine HR.out.mono ?_
  rintro e w2 ⟨rfl, hm2⟩
  have HM2 := Lib.hid (HM1.out.trans hm2)
  have HBK := Lib.hid (HB1.out.mods hm2 (fun f => f))
  clear hm2 q0 q1 q2 q3 q4 HR
  have q0 := HBK.out.cell (i := 0) rfl
  cases rt with
  | false =>
    go_wp2_with fail
    go_ret2
    refine ⟨?_, HM2.out⟩
    rw [← HRT.out]
    rfl
  | true =>
    obtain ⟨⟨o1, o2⟩, -⟩ := right_parts HRT.out.symm
    simp only at o1 o2
    obtain ⟨fi, hfi, hf1⟩ := op_fin o1 o2
    have hnm : RefP.nameOf op = ⟨(opName op).toArray⟩ := by rw [hfi]; exact names_same fi hf1
    have HF := Lib.hid (RefP.form_yes op o1 o2 w2)
    have HO := Lib.hid (And.intro o1 o2)
    clear hfi hf1
    unfold RefP.FormSaid at HF
    go_wp2_with fail
    refine HF.out.mono ?_
    rintro e w3 ⟨rfl, hm3⟩
    unfold RefP.formAgg
    rw [hnm]
    have HM3 := Lib.hid (HM2.out.trans hm3)
    have HBK3 := Lib.hid (HBK.out.mods hm3 (fun f => f))
    clear hm3 q0 hnm HF HBK HM2
    go_upto_region 4 with (fail)
    obtain ⟨w4, hw4⟩ : ∃ w4, w4 = w3.alloc (.cells #[.int .u8 (kindOf op), .int .u32 (lowOf op), .int .u32 (midOf op), .int .u32 (highOf op), .string ⟨(opName op).toArray⟩] 87) := ⟨_, rfl⟩
    have HM4 : Hid (Mods None W w4) := Lib.hid (by rw [hw4]; exact HM3.out.alloc _)
    have HBK4 : Hid (Blk w4 bx [.int .i64 op, .int .i64 rd, .int .i64 ra, .int .i64 rb, .int .i64 n] 30) := Lib.hid (by rw [hw4]; exact HBK3.out.alloc _)
    have hfx : w4.cell? ⟨w3.heap.size, 4, none⟩ = some (.string ⟨(opName op).toArray⟩) := by
      rw [hw4]
      exact (Blk.new w3 _ _).cell rfl
    rw [← hw4]
    clear hw4 HM3 HBK3
    have q0 := HBK4.out.cell (i := 0) rfl
    have HSH := Lib.hid (ref_shape op (.inr HO.out) w4)
    rw [show shapeOf op = partsOf op by unfold shapeOf; rw [if_neg (by have := HO.out; omega)]] at HSH
    go_wp2_with fail
    refine HSH.out.mono ?_
    rintro e w5 ⟨rfl, hm5⟩
    have HM5 := Lib.hid (HM4.out.trans hm5)
    have HBK5 := Lib.hid (HBK4.out.mods hm5 (fun f => f))
    clear hm5 q0 hfx HSH HBK4 HM4
    obtain ⟨pb, hpb⟩ : ∃ pb : ByteArray, pb = ⟨(partsOf op).toArray⟩ := ⟨_, rfl⟩
    have hps : pb.size = (partsOf op).length := by rw [hpb]; simp [ByteArray.size]
    have HPB := Lib.hid (And.intro hpb hps)
    unfold str
    rw [← hpb]
    clear hpb hps
    have HLT : Hid (bx < w5.heap.size ∧ W.heap.size ≤ w5.heap.size) := Lib.hid ⟨HBK5.out.lt, HM5.out.size⟩
    go_wp2_with fail
    go_loopw [6] (fun sv wr => ∃ i : Nat, i ≤ pb.size ∧ Hid (PrAt W ⟨op, rd, ra, rb, n⟩ pb w5.heap.size bx i sv wr)) (fun _ wr => pb.size - wr.iterPos w5.heap.size)
    case atStart => exact ⟨0, Nat.zero_le _, Lib.hid ⟨World.iter_heap _ _ _, HBK5.out.alloc _, by simp [wrT], HM5.out.alloc _⟩⟩
    case round =>
      obtain ⟨i, hi, HW⟩ := hrel
      have htx := HW.out.txt
      subst htx
      by_cases hlt : i < pb.size
      · obtain ⟨c, hc, hci⟩ : ∃ c, (partsOf op)[i]? = some c ∧ pb[i]'hlt = c := by
          have h1 : i < (partsOf op).length := by rw [← HPB.out.2]; exact hlt
          refine ⟨(partsOf op)[i], List.getElem?_eq_getElem h1, ?_⟩
          have e := HPB.out.1
          subst e
          rfl
        have hcm := parts_in op c (List.mem_of_getElem? hc)
        have hsm : (pb[i]'hlt).toNat < 128 := by rw [hci]; rcases hcm with rfl | rfl | rfl | rfl | rfl | rfl <;> decide
        have hnx0 : ∀ ty, (Instr.next (.pointer (some ⟨w5.heap.size, 0, none⟩)) true ty).run Tryz.prog wr = .ok (.tuple #[.bool true, .int .i64 i, .int .i32 (pb[i]'hlt).toNat]) (wr.iterAt w5.heap.size pb (i + 1)) := fun ty => Lib.run_next_ascii_at wr w5.heap.size pb i ty HW.out.at_ hlt hsm
        obtain ⟨w6, hw6⟩ : ∃ w6, w6 = wr.iterAt w5.heap.size pb (i + 1) := ⟨_, rfl⟩
        rw [← hw6, hci] at hnx0
        have hlt3 := HLT.out
        have HBX6 : Hid (Blk w6 bx (instCells op rd ra rb n).toList 30) := Lib.hid (by rw [hw6]; exact iter_blk HW.out.box (by omega) _ _)
        have HIT : Hid (w6.heap[w5.heap.size]? = some (.stringIter pb (i + 1))) := Lib.hid (by rw [hw6]; exact Lib.iterAt_heap _ _ _ _ _ HW.out.at_)
        have HM6 : Hid (Mods None W w6) := Lib.hid (by rw [hw6]; exact iter_mods HW.out.mods (by omega) _ _)
        have HPC := Lib.hid hc
        have HP := Lib.hid (iterPos_of HW.out.at_)
        have HRG := Lib.hid (fun (k : Int) (hk : -9223372036854775808 ≤ k ∧ k ≤ 9223372036854775807) (w : World) (hm : Mods None W w) => itoa_any k hk.1 hk.2 w (HB.out.next hm far_none).pow)
        have HFM := Lib.hid (format_any n HX.out.n.1 HX.out.n.2 w6 (HB.out.next HM6.out far_none).pow)
        have hq := HBX6.out
        have q1 := hq.cell (i := 1) rfl
        have q2 := hq.cell (i := 2) rfl
        have q3 := hq.cell (i := 3) rfl
        have q4 := hq.cell (i := 4) rfl
        have hpl := parts_len op
        have hi3 : i < 3 := by have := HPB.out.2; omega
        obtain ⟨sx, hsx⟩ : ∃ sx, sx = opName op ++ wrT (((partsOf op).take i).map (pieceT ⟨op, rd, ra, rb, n⟩)) := ⟨_, rfl⟩
        have hsl : sx.length ≤ 500 := by
          have h1 := wrT_len (L := ((partsOf op).take i).map (pieceT ⟨op, rd, ra, rb, n⟩)) (fun p hp => by
            obtain ⟨d, -, rfl⟩ := List.mem_map.1 hp
            exact piece_len HX.out d)
          have h2 : (((partsOf op).take i).map (pieceT ⟨op, rd, ra, rb, n⟩)).length ≤ 3 := by rw [List.length_map, List.length_take]; omega
          have h3 : (opName op).length ≤ 5 := by
            obtain ⟨f, hf, -⟩ := op_fin HO.out.1 HO.out.2
            have key : ∀ f : Fin 32, (opName f.val).length ≤ 5 := by decide
            rw [hf]; exact key f
          rw [hsx, List.length_append]
          omega
        obtain ⟨sp, hsp⟩ : ∃ sp : UInt8, sp = if i = 0 then 32 else 44 := ⟨_, rfl⟩
        have htx := pr_txt (x := ⟨op, rd, ra, rb, n⟩) hc
        simp only at htx
        rw [← hsx, ← hsp] at htx
        have HTX := Lib.hid htx
        clear htx
        simp only
        rw [← hsx]
        have HIN := Lib.hid hlt
        have HSL := Lib.hid hsl
        have hln := itoa_len (n := n) HX.out.n.1 HX.out.n.2
        clear hw6 hq HW hc hsm hci hi hpl hlt3 hsx
        rcases hcm with rfl | rfl | rfl | rfl | rfl | rfl
        all_goals simp only [UInt8.reduceToNat] at hnx0
        · have hnx := hnx0
          clear hnx0
          by_cases hi0 : i = 0
          · subst hi0
            obtain rfl : sp = 32 := by simpa using hsp
            clear hsp
            go_wp2_with fail
            refine HFM.out.mono ?_
            rintro e w7 ⟨rfl, hm7⟩
            have HM7 := Lib.hid (HM6.out.trans hm7)
            have HIT7 := Lib.hid (iter_mod hm7 HIT.out (fun f => f))
            have HBX7 := Lib.hid (HBX6.out.mods hm7 (fun f => f))
            have r1 := HBX7.out.cell (i := 1) rfl
            have hpt := itoa_len (n := rd) HX.out.rd.1 HX.out.rd.2
            have hs5 : ¬ 9223372036854775807 < 1 + (Lib.itoa rd).length := by have := HSL.out; omega
            have hs6 : ¬ 9223372036854775807 < 1 + (1 + (Lib.itoa rd).length) := by have := HSL.out; omega
            have hs7 : ¬ 9223372036854775807 < sx.length + (1 + (1 + (Lib.itoa rd).length)) := by have := HSL.out; omega
            clear hm7 q1 q2 q3 q4 hnx
            unfold str
            go_wp2_with fail
            refine (HRG.out _ HX.out.rd w7 HM7.out).mono ?_
            rintro e w8 ⟨rfl, hm8⟩
            have HM8 := Lib.hid (HM7.out.trans hm8)
            have HIT8 := Lib.hid (iter_mod hm8 HIT7.out (fun f => f))
            have HBX8 := Lib.hid (HBX7.out.mods hm8 (fun f => f))
            clear hm8 r1
            unfold str
            go_wp2_with fail
            exact ⟨⟨_, by have := HIN.out; omega, Lib.hid ⟨HIT8.out, HBX8.out, (by rw [HTX.out, pr_cat1, piece_d]; try rfl), HM8.out⟩⟩, by have h9 := iterPos_of HIT8.out; rw [HP.out, h9]; have := HIN.out; omega⟩
          · rw [if_neg hi0] at hsp
            subst hsp
            have hi1 : ¬ (i : Int) = 0 := by omega
            have hi2 : ((i : Int) == 0) = false := by simpa using hi1
            skip
            go_wp2_with fail
            refine HFM.out.mono ?_
            rintro e w7 ⟨rfl, hm7⟩
            have HM7 := Lib.hid (HM6.out.trans hm7)
            have HIT7 := Lib.hid (iter_mod hm7 HIT.out (fun f => f))
            have HBX7 := Lib.hid (HBX6.out.mods hm7 (fun f => f))
            have r1 := HBX7.out.cell (i := 1) rfl
            have hpt := itoa_len (n := rd) HX.out.rd.1 HX.out.rd.2
            have hs5 : ¬ 9223372036854775807 < 1 + (Lib.itoa rd).length := by have := HSL.out; omega
            have hs6 : ¬ 9223372036854775807 < 1 + (1 + (Lib.itoa rd).length) := by have := HSL.out; omega
            have hs7 : ¬ 9223372036854775807 < sx.length + (1 + (1 + (Lib.itoa rd).length)) := by have := HSL.out; omega
            clear hm7 q1 q2 q3 q4 hnx
            unfold str
            go_wp2_with fail
            refine (HRG.out _ HX.out.rd w7 HM7.out).mono ?_
            rintro e w8 ⟨rfl, hm8⟩
            have HM8 := Lib.hid (HM7.out.trans hm8)
            have HIT8 := Lib.hid (iter_mod hm8 HIT7.out (fun f => f))
            have HBX8 := Lib.hid (HBX7.out.mods hm8 (fun f => f))
            clear hm8 r1
            unfold str
            go_wp2_with fail
            exact ⟨⟨_, by have := HIN.out; omega, Lib.hid ⟨HIT8.out, HBX8.out, (by rw [HTX.out, pr_cat1, piece_d]; try rfl), HM8.out⟩⟩, by have h9 := iterPos_of HIT8.out; rw [HP.out, h9]; have := HIN.out; omega⟩
        · have hnx := hnx0
          clear hnx0
          by_cases hi0 : i = 0
          · subst hi0
            obtain rfl : sp = 32 := by simpa using hsp
            clear hsp
            go_wp2_with fail
            refine HFM.out.mono ?_
            rintro e w7 ⟨rfl, hm7⟩
            have HM7 := Lib.hid (HM6.out.trans hm7)
            have HIT7 := Lib.hid (iter_mod hm7 HIT.out (fun f => f))
            have HBX7 := Lib.hid (HBX6.out.mods hm7 (fun f => f))
            have r1 := HBX7.out.cell (i := 2) rfl
            have hpt := itoa_len (n := ra) HX.out.ra.1 HX.out.ra.2
            have hs5 : ¬ 9223372036854775807 < 1 + (Lib.itoa ra).length := by have := HSL.out; omega
            have hs6 : ¬ 9223372036854775807 < 1 + (1 + (Lib.itoa ra).length) := by have := HSL.out; omega
            have hs7 : ¬ 9223372036854775807 < sx.length + (1 + (1 + (Lib.itoa ra).length)) := by have := HSL.out; omega
            clear hm7 q1 q2 q3 q4 hnx
            unfold str
            go_wp2_with fail
            refine (HRG.out _ HX.out.ra w7 HM7.out).mono ?_
            rintro e w8 ⟨rfl, hm8⟩
            have HM8 := Lib.hid (HM7.out.trans hm8)
            have HIT8 := Lib.hid (iter_mod hm8 HIT7.out (fun f => f))
            have HBX8 := Lib.hid (HBX7.out.mods hm8 (fun f => f))
            clear hm8 r1
            unfold str
            go_wp2_with fail
            exact ⟨⟨_, by have := HIN.out; omega, Lib.hid ⟨HIT8.out, HBX8.out, (by rw [HTX.out, pr_cat1, piece_a]; try rfl), HM8.out⟩⟩, by have h9 := iterPos_of HIT8.out; rw [HP.out, h9]; have := HIN.out; omega⟩
          · rw [if_neg hi0] at hsp
            subst hsp
            have hi1 : ¬ (i : Int) = 0 := by omega
            have hi2 : ((i : Int) == 0) = false := by simpa using hi1
            skip
            go_wp2_with fail
            refine HFM.out.mono ?_
            rintro e w7 ⟨rfl, hm7⟩
            have HM7 := Lib.hid (HM6.out.trans hm7)
            have HIT7 := Lib.hid (iter_mod hm7 HIT.out (fun f => f))
            have HBX7 := Lib.hid (HBX6.out.mods hm7 (fun f => f))
            have r1 := HBX7.out.cell (i := 2) rfl
            have hpt := itoa_len (n := ra) HX.out.ra.1 HX.out.ra.2
            have hs5 : ¬ 9223372036854775807 < 1 + (Lib.itoa ra).length := by have := HSL.out; omega
            have hs6 : ¬ 9223372036854775807 < 1 + (1 + (Lib.itoa ra).length) := by have := HSL.out; omega
            have hs7 : ¬ 9223372036854775807 < sx.length + (1 + (1 + (Lib.itoa ra).length)) := by have := HSL.out; omega
            clear hm7 q1 q2 q3 q4 hnx
            unfold str
            go_wp2_with fail
            refine (HRG.out _ HX.out.ra w7 HM7.out).mono ?_
            rintro e w8 ⟨rfl, hm8⟩
            have HM8 := Lib.hid (HM7.out.trans hm8)
            have HIT8 := Lib.hid (iter_mod hm8 HIT7.out (fun f => f))
            have HBX8 := Lib.hid (HBX7.out.mods hm8 (fun f => f))
            clear hm8 r1
            unfold str
            go_wp2_with fail
            exact ⟨⟨_, by have := HIN.out; omega, Lib.hid ⟨HIT8.out, HBX8.out, (by rw [HTX.out, pr_cat1, piece_a]; try rfl), HM8.out⟩⟩, by have h9 := iterPos_of HIT8.out; rw [HP.out, h9]; have := HIN.out; omega⟩
        · have hnx := hnx0
          clear hnx0
          by_cases hi0 : i = 0
          · subst hi0
            obtain rfl : sp = 32 := by simpa using hsp
            clear hsp
            go_wp2_with fail
            refine HFM.out.mono ?_
            rintro e w7 ⟨rfl, hm7⟩
            have HM7 := Lib.hid (HM6.out.trans hm7)
            have HIT7 := Lib.hid (iter_mod hm7 HIT.out (fun f => f))
            have HBX7 := Lib.hid (HBX6.out.mods hm7 (fun f => f))
            have r1 := HBX7.out.cell (i := 3) rfl
            have hpt := itoa_len (n := rb) HX.out.rb.1 HX.out.rb.2
            have hs5 : ¬ 9223372036854775807 < 1 + (Lib.itoa rb).length := by have := HSL.out; omega
            have hs6 : ¬ 9223372036854775807 < 1 + (1 + (Lib.itoa rb).length) := by have := HSL.out; omega
            have hs7 : ¬ 9223372036854775807 < sx.length + (1 + (1 + (Lib.itoa rb).length)) := by have := HSL.out; omega
            clear hm7 q1 q2 q3 q4 hnx
            unfold str
            go_wp2_with fail
            refine (HRG.out _ HX.out.rb w7 HM7.out).mono ?_
            rintro e w8 ⟨rfl, hm8⟩
            have HM8 := Lib.hid (HM7.out.trans hm8)
            have HIT8 := Lib.hid (iter_mod hm8 HIT7.out (fun f => f))
            have HBX8 := Lib.hid (HBX7.out.mods hm8 (fun f => f))
            clear hm8 r1
            unfold str
            go_wp2_with fail
            exact ⟨⟨_, by have := HIN.out; omega, Lib.hid ⟨HIT8.out, HBX8.out, (by rw [HTX.out, pr_cat1, piece_b]; try rfl), HM8.out⟩⟩, by have h9 := iterPos_of HIT8.out; rw [HP.out, h9]; have := HIN.out; omega⟩
          · rw [if_neg hi0] at hsp
            subst hsp
            have hi1 : ¬ (i : Int) = 0 := by omega
            have hi2 : ((i : Int) == 0) = false := by simpa using hi1
            skip
            go_wp2_with fail
            refine HFM.out.mono ?_
            rintro e w7 ⟨rfl, hm7⟩
            have HM7 := Lib.hid (HM6.out.trans hm7)
            have HIT7 := Lib.hid (iter_mod hm7 HIT.out (fun f => f))
            have HBX7 := Lib.hid (HBX6.out.mods hm7 (fun f => f))
            have r1 := HBX7.out.cell (i := 3) rfl
            have hpt := itoa_len (n := rb) HX.out.rb.1 HX.out.rb.2
            have hs5 : ¬ 9223372036854775807 < 1 + (Lib.itoa rb).length := by have := HSL.out; omega
            have hs6 : ¬ 9223372036854775807 < 1 + (1 + (Lib.itoa rb).length) := by have := HSL.out; omega
            have hs7 : ¬ 9223372036854775807 < sx.length + (1 + (1 + (Lib.itoa rb).length)) := by have := HSL.out; omega
            clear hm7 q1 q2 q3 q4 hnx
            unfold str
            go_wp2_with fail
            refine (HRG.out _ HX.out.rb w7 HM7.out).mono ?_
            rintro e w8 ⟨rfl, hm8⟩
            have HM8 := Lib.hid (HM7.out.trans hm8)
            have HIT8 := Lib.hid (iter_mod hm8 HIT7.out (fun f => f))
            have HBX8 := Lib.hid (HBX7.out.mods hm8 (fun f => f))
            clear hm8 r1
            unfold str
            go_wp2_with fail
            exact ⟨⟨_, by have := HIN.out; omega, Lib.hid ⟨HIT8.out, HBX8.out, (by rw [HTX.out, pr_cat1, piece_b]; try rfl), HM8.out⟩⟩, by have h9 := iterPos_of HIT8.out; rw [HP.out, h9]; have := HIN.out; omega⟩
        · have hnx := hnx0
          clear hnx0
          by_cases hi0 : i = 0
          · subst hi0
            obtain rfl : sp = 32 := by simpa using hsp
            clear hsp
            go_wp2_with fail
            refine HFM.out.mono ?_
            rintro e w7 ⟨rfl, hm7⟩
            have HM7 := Lib.hid (HM6.out.trans hm7)
            have HIT7 := Lib.hid (iter_mod hm7 HIT.out (fun f => f))
            have HBX7 := Lib.hid (HBX6.out.mods hm7 (fun f => f))
            have r1 := HBX7.out.cell (i := 2) rfl
            have hpt := itoa_len (n := ra) HX.out.ra.1 HX.out.ra.2
            have hs5 : ¬ 9223372036854775807 < 2 + (Lib.itoa ra).length := by have := HSL.out; omega
            have hs6 : ¬ 9223372036854775807 < 2 + (Lib.itoa ra).length + 1 := by have := HSL.out; omega
            have hs7 : ¬ 9223372036854775807 < (Lib.itoa n).length + (2 + (Lib.itoa ra).length + 1) := by have := HSL.out; omega
            have hs8 : ¬ 9223372036854775807 < 1 + ((Lib.itoa n).length + (2 + (Lib.itoa ra).length + 1)) := by have := HSL.out; omega
            have hs9 : ¬ 9223372036854775807 < sx.length + (1 + ((Lib.itoa n).length + (2 + (Lib.itoa ra).length + 1))) := by have := HSL.out; omega
            clear hm7 q1 q2 q3 q4 hnx
            unfold str
            go_wp2_with fail
            refine (HRG.out _ HX.out.ra w7 HM7.out).mono ?_
            rintro e w8 ⟨rfl, hm8⟩
            have HM8 := Lib.hid (HM7.out.trans hm8)
            have HIT8 := Lib.hid (iter_mod hm8 HIT7.out (fun f => f))
            have HBX8 := Lib.hid (HBX7.out.mods hm8 (fun f => f))
            clear hm8 r1
            unfold str
            go_wp2_with fail
            exact ⟨⟨_, by have := HIN.out; omega, Lib.hid ⟨HIT8.out, HBX8.out, (by rw [HTX.out, pr_cat2, piece_m]; try rfl), HM8.out⟩⟩, by have h9 := iterPos_of HIT8.out; rw [HP.out, h9]; have := HIN.out; omega⟩
          · rw [if_neg hi0] at hsp
            subst hsp
            have hi1 : ¬ (i : Int) = 0 := by omega
            have hi2 : ((i : Int) == 0) = false := by simpa using hi1
            skip
            go_wp2_with fail
            refine HFM.out.mono ?_
            rintro e w7 ⟨rfl, hm7⟩
            have HM7 := Lib.hid (HM6.out.trans hm7)
            have HIT7 := Lib.hid (iter_mod hm7 HIT.out (fun f => f))
            have HBX7 := Lib.hid (HBX6.out.mods hm7 (fun f => f))
            have r1 := HBX7.out.cell (i := 2) rfl
            have hpt := itoa_len (n := ra) HX.out.ra.1 HX.out.ra.2
            have hs5 : ¬ 9223372036854775807 < 2 + (Lib.itoa ra).length := by have := HSL.out; omega
            have hs6 : ¬ 9223372036854775807 < 2 + (Lib.itoa ra).length + 1 := by have := HSL.out; omega
            have hs7 : ¬ 9223372036854775807 < (Lib.itoa n).length + (2 + (Lib.itoa ra).length + 1) := by have := HSL.out; omega
            have hs8 : ¬ 9223372036854775807 < 1 + ((Lib.itoa n).length + (2 + (Lib.itoa ra).length + 1)) := by have := HSL.out; omega
            have hs9 : ¬ 9223372036854775807 < sx.length + (1 + ((Lib.itoa n).length + (2 + (Lib.itoa ra).length + 1))) := by have := HSL.out; omega
            clear hm7 q1 q2 q3 q4 hnx
            unfold str
            go_wp2_with fail
            refine (HRG.out _ HX.out.ra w7 HM7.out).mono ?_
            rintro e w8 ⟨rfl, hm8⟩
            have HM8 := Lib.hid (HM7.out.trans hm8)
            have HIT8 := Lib.hid (iter_mod hm8 HIT7.out (fun f => f))
            have HBX8 := Lib.hid (HBX7.out.mods hm8 (fun f => f))
            clear hm8 r1
            unfold str
            go_wp2_with fail
            exact ⟨⟨_, by have := HIN.out; omega, Lib.hid ⟨HIT8.out, HBX8.out, (by rw [HTX.out, pr_cat2, piece_m]; try rfl), HM8.out⟩⟩, by have h9 := iterPos_of HIT8.out; rw [HP.out, h9]; have := HIN.out; omega⟩
        · have hnx := hnx0
          clear hnx0
          by_cases hi0 : i = 0
          · subst hi0
            obtain rfl : sp = 32 := by simpa using hsp
            clear hsp
            go_wp2_with fail
            refine HFM.out.mono ?_
            rintro e w7 ⟨rfl, hm7⟩
            have HM7 := Lib.hid (HM6.out.trans hm7)
            have HIT7 := Lib.hid (iter_mod hm7 HIT.out (fun f => f))
            have HBX7 := Lib.hid (HBX6.out.mods hm7 (fun f => f))
            have hs3 : ¬ 9223372036854775807 < 1 + (Lib.itoa n).length := by have := HSL.out; omega
            have hs4 : ¬ 9223372036854775807 < sx.length + (1 + (Lib.itoa n).length) := by have := HSL.out; omega
            clear hm7 q1 q2 q3 q4 hnx
            unfold str
            go_wp2_with fail
            exact ⟨⟨_, by have := HIN.out; omega, Lib.hid ⟨HIT7.out, HBX7.out, (by rw [HTX.out, pr_cat0, piece_n]; try rfl), HM7.out⟩⟩, by have h9 := iterPos_of HIT7.out; rw [HP.out, h9]; have := HIN.out; omega⟩
          · rw [if_neg hi0] at hsp
            subst hsp
            have hi1 : ¬ (i : Int) = 0 := by omega
            have hi2 : ((i : Int) == 0) = false := by simpa using hi1
            skip
            go_wp2_with fail
            refine HFM.out.mono ?_
            rintro e w7 ⟨rfl, hm7⟩
            have HM7 := Lib.hid (HM6.out.trans hm7)
            have HIT7 := Lib.hid (iter_mod hm7 HIT.out (fun f => f))
            have HBX7 := Lib.hid (HBX6.out.mods hm7 (fun f => f))
            have hs3 : ¬ 9223372036854775807 < 1 + (Lib.itoa n).length := by have := HSL.out; omega
            have hs4 : ¬ 9223372036854775807 < sx.length + (1 + (Lib.itoa n).length) := by have := HSL.out; omega
            clear hm7 q1 q2 q3 q4 hnx
            unfold str
            go_wp2_with fail
            exact ⟨⟨_, by have := HIN.out; omega, Lib.hid ⟨HIT7.out, HBX7.out, (by rw [HTX.out, pr_cat0, piece_n]; try rfl), HM7.out⟩⟩, by have h9 := iterPos_of HIT7.out; rw [HP.out, h9]; have := HIN.out; omega⟩
        · have hnx := hnx0
          clear hnx0
          by_cases hi0 : i = 0
          · subst hi0
            obtain rfl : sp = 32 := by simpa using hsp
            clear hsp
            go_wp2_with fail
            refine HFM.out.mono ?_
            rintro e w7 ⟨rfl, hm7⟩
            have HM7 := Lib.hid (HM6.out.trans hm7)
            have HIT7 := Lib.hid (iter_mod hm7 HIT.out (fun f => f))
            have HBX7 := Lib.hid (HBX6.out.mods hm7 (fun f => f))
            have hs3 : ¬ 9223372036854775807 < 1 + (Lib.itoa n).length := by have := HSL.out; omega
            have hs4 : ¬ 9223372036854775807 < sx.length + (1 + (Lib.itoa n).length) := by have := HSL.out; omega
            clear hm7 q1 q2 q3 q4 hnx
            unfold str
            go_wp2_with fail
            exact ⟨⟨_, by have := HIN.out; omega, Lib.hid ⟨HIT7.out, HBX7.out, (by rw [HTX.out, pr_cat0, piece_t]; try rfl), HM7.out⟩⟩, by have h9 := iterPos_of HIT7.out; rw [HP.out, h9]; have := HIN.out; omega⟩
          · rw [if_neg hi0] at hsp
            subst hsp
            have hi1 : ¬ (i : Int) = 0 := by omega
            have hi2 : ((i : Int) == 0) = false := by simpa using hi1
            skip
            go_wp2_with fail
            refine HFM.out.mono ?_
            rintro e w7 ⟨rfl, hm7⟩
            have HM7 := Lib.hid (HM6.out.trans hm7)
            have HIT7 := Lib.hid (iter_mod hm7 HIT.out (fun f => f))
            have HBX7 := Lib.hid (HBX6.out.mods hm7 (fun f => f))
            have hs3 : ¬ 9223372036854775807 < 1 + (Lib.itoa n).length := by have := HSL.out; omega
            have hs4 : ¬ 9223372036854775807 < sx.length + (1 + (Lib.itoa n).length) := by have := HSL.out; omega
            clear hm7 q1 q2 q3 q4 hnx
            unfold str
            go_wp2_with fail
            exact ⟨⟨_, by have := HIN.out; omega, Lib.hid ⟨HIT7.out, HBX7.out, (by rw [HTX.out, pr_cat0, piece_t]; try rfl), HM7.out⟩⟩, by have h9 := iterPos_of HIT7.out; rw [HP.out, h9]; have := HIN.out; omega⟩
      · obtain rfl : i = pb.size := by omega
        have hend := fun ty => Lib.run_next_end_at (P := Tryz.prog) wr w5.heap.size pb pb.size ty HW.out.at_ (by omega)
        have hfull : ((partsOf op).take pb.size) = partsOf op := by rw [HPB.out.2, List.take_length]
        obtain ⟨sx, hsx⟩ : ∃ sx, sx = opName op ++ wrT (((partsOf op).take pb.size).map (pieceT ⟨op, rd, ra, rb, n⟩)) := ⟨_, rfl⟩
        simp only
        rw [← hsx]
        rw [hfull] at hsx
        have HSX := Lib.hid hsx
        have HRT2 := HRT
        clear hfull hlt hsx
        go_wp2_with fail
        go_ret2
        refine ⟨?_, HW.out.mods⟩
        rw [← HRT2.out, if_pos rfl, printB_wr]
        simp only
        rw [← HSX.out]
        rfl
end Go.Proofs.YtodgkbcgdbhpeaaGreatDoor.AsmP
