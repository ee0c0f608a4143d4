/- How instructions are written: asm.Print. Conditions: the tables lie. -/
import Derived.Test.YtodgkbcgdbhpeaaGreatDoorAsmN
import Derived.Maps.AppendAt
import Derived.Laws.AppendOwnNone
import Derived.Deep.RegionHeld3
import Derived.Deep.RegionWith
import Derived.OwnWalk
namespace Go.Proofs.YtodgkbcgdbhpeaaGreatDoor.AsmP
open Go.RowKit Go.Proofs.YtodgkbcgdbhpeaaGreatDoor.WordP Go.Proofs.YtodgkbcgdbhpeaaGreatDoor.Wo
set_option linter.unusedVariables false
set_option linter.unusedSimpArgs false
theorem lex_form {W : World} {B : Nat} {e : TypeId} {size n : Nat} {v : Value} {vs : List Value} (h : W.ownsRow B e size v n vs) : ∃ oa oc, v = .slice oa n oc := by
  rcases h.2 with ⟨hv, h0⟩ | ⟨g, cap, cur, hv, _⟩
  · exact ⟨_, _, by rw [hv, h0]⟩
  · exact ⟨_, _, hv⟩
theorem str_one (s : ByteArray) : ∀ u ∈ [Value.string s], u.oneCell' = true := by
  intro u hu
  simp only [List.mem_singleton] at hu
  subst hu
  rfl
theorem string_info : (Tryz.prog.info? 9).map (fun i => (i.zero, i.size, i.bytes)) = some (some (.string ⟨#[]⟩), 1, 16) := by kernel_rfl
theorem ndig_le : (k : Nat) → (u : Nat) → 1 ≤ k → u < 10 ^ k → Lib.nDigits u ≤ k
  | 0, u, h, _ => by omega
  | 1, u, _, h => by rw [Lib.nDigits_small (by omega)]; exact Nat.le_refl _
  | k + 2, u, _, h => by
    by_cases hu : u < 10
    · rw [Lib.nDigits_small hu]; omega
    · rw [Lib.nDigits_big hu]
      have := ndig_le (k + 1) (u / 10) (by omega) (by
        rw [Nat.pow_succ] at h
        omega)
      omega
theorem itoa_len {n : Int} (h1 : -9223372036854775808 ≤ n) (h2 : n ≤ 9223372036854775807) : (Lib.itoa n).length ≤ 20 := by
  unfold Lib.itoa
  split
  · have := ndig_le 19 n.natAbs (by omega) (by omega)
    rw [List.length_cons, Lib.decDigits_length]
    omega
  · have := ndig_le 19 n.toNat (by omega) (by omega)
    rw [Lib.decDigits_length]
    omega
theorem ba_append (a b : List UInt8) : (⟨a.toArray⟩ : ByteArray) ++ ⟨b.toArray⟩ = ⟨(a ++ b).toArray⟩ := by
  apply ByteArray.ext
  simp
set_option maxRecDepth 100000 in
set_option maxHeartbeats 1000000 in
theorem reg_any (n : Int) (h1 : -9223372036854775808 ≤ n) (h2 : n ≤ 9223372036854775807) (W : World) (hB : PowTab W) :
    Calls Tryz.prog 23 #[.int .i64 n] W fun e w => e = .returned (str (regT n)) ∧ Mods None W w := by
  have HI := Lib.hid (itoa_any n h1 h2 W hB)
  have hl := itoa_len h1 h2
  clear hB
  unfold str at *
  go_enter Tryz.func23, Tryz.ntmps23
  go_wp2_with fail
  refine HI.out.mono ?_
  rintro e w1 ⟨rfl, hm⟩
  have HM := Lib.hid hm
  clear hm
  have hs0 : ¬ 9223372036854775807 < 1 + (Lib.itoa n).length := by omega
  go_wp2_with fail
  go_ret
  exact ⟨by rfl, HM.out⟩
/-- What Print answers. -/
def PrintP (x : Ins) (W : World) (e : Ending) (w : World) : Prop := e = .returned (if x.right = true then .tuple #[str (printB x), .nilIface] else .tuple #[str [], .iface 38 (.int .i64 1)]) ∧ Mods None W w
structure I64s (x : Ins) : Prop where
  op : -9223372036854775808 ≤ x.op ∧ x.op ≤ 9223372036854775807
  rd : -9223372036854775808 ≤ x.rd ∧ x.rd ≤ 9223372036854775807
  ra : -9223372036854775808 ≤ x.ra ∧ x.ra ≤ 9223372036854775807
  rb : -9223372036854775808 ≤ x.rb ∧ x.rb ≤ 9223372036854775807
  n : -9223372036854775808 ≤ x.n ∧ x.n ≤ 9223372036854775807
theorem join_any (L : List (List UInt8)) (lv : Value) {w0 : World} {B : Nat} (hown : w0.ownsRow B 9 1 lv L.length (L.map str)) (hn : L.length ≤ 2000000000) (hl : (Lib.join L [44]).length ≤ 1000000000) (w : World) (hm : Mods None w0 w) :
    Calls Tryz.prog 27 #[lv, .string ⟨#[44]⟩] w fun r w' => r = .returned (str (Lib.join L [44])) ∧ Mods None w w' := by
  rcases hown.2 with ⟨rfl, h0⟩ | ⟨g, cap, cur, rfl, _, hg, h3, h4, _⟩
  · have hL0 : L = [] := List.eq_nil_of_length_eq_zero h0
    subst hL0
    exact (Tryz.strings_Join_none none 0 ⟨#[44]⟩ w).mono fun e w' h => ⟨by rw [h.1]; rfl, by rw [h.2]; exact Mods.refl _ _⟩
  · have hcells := hown.cells (g := g) rfl
    have hlt := (hown.lt g rfl).2
    have hmap : (L.map (fun (t : List UInt8) => (⟨t.toArray⟩ : ByteArray))).map (·.data.toList) = L := by
      rw [List.map_map]
      conv => rhs; rw [← List.map_id L]
      apply List.map_congr_left
      intro t _
      simp
    have hj := Tryz.strings_Join g 0 cap (L.map fun (t : List UInt8) => (⟨t.toArray⟩ : ByteArray)) ⟨#[44]⟩ w (by
      intro j x hx
      rw [List.getElem?_map, Option.map_eq_some_iff] at hx
      obtain ⟨t, ht, rfl⟩ := hx
      have := hcells j (str t) (by rw [List.getElem?_map, ht]; rfl)
      rw [Nat.zero_add]
      refine hm.cellOf ?_ (fun f => f)
      cases j with
      | zero => exact this
      | succ j => simpa [Addr.add, str] using this) (Nat.lt_of_lt_of_le hlt hm.size) (by rw [List.length_map]; omega) (by rw [List.length_map]; exact h3) (by rw [hmap]; exact Nat.le_trans hl (by decide))
    rw [List.length_map, hmap] at hj
    exact hj.mono fun e w' h => ⟨h.1, Mods.of_below h.2⟩
theorem piece_len {x : Ins} (h : I64s x) (c : UInt8) : (pieceT x c).length ≤ 50 := by
  have h1 := itoa_len h.rd.1 h.rd.2
  have h2 := itoa_len h.ra.1 h.ra.2
  have h3 := itoa_len h.rb.1 h.rb.2
  have h4 := itoa_len h.n.1 h.n.2
  unfold pieceT regT
  split
  · simp; omega
  split
  · simp; omega
  split
  · simp; omega
  split
  · simp; omega
  · omega
theorem parts_len (op : Int) : (partsOf op).length ≤ 3 := by
  unfold partsOf
  repeat (split; · simp)
  simp
theorem parts_in (op : Int) : ∀ c ∈ partsOf op, c = 100 ∨ c = 97 ∨ c = 98 ∨ c = 109 ∨ c = 110 ∨ c = 116 := by
  have h : partsOf op ∈ ([[100, 97, 98], [100, 97, 110], [100, 109], [98, 109], [97, 98, 116], [100, 110], [100, 116], []] : List (List UInt8)) := by
    unfold partsOf
    repeat (split; · simp)
    simp
  have key : ∀ l ∈ ([[100, 97, 98], [100, 97, 110], [100, 109], [98, 109], [97, 98, 116], [100, 110], [100, 116], []] : List (List UInt8)), ∀ c ∈ l, c = 100 ∨ c = 97 ∨ c = 98 ∨ c = 109 ∨ c = 110 ∨ c = 116 := by decide
  exact key _ h
/-- Where the loop stands: so many parts are written. -/
structure WrAt (W : World) (x : Ins) (pb : ByteArray) (it bx base : Nat) (i : Nat) (lv : Value) (wr : World) : Prop where
  at_ : wr.heap[it]? = some (.stringIter pb i)
  own : wr.ownsRow base 9 1 lv i (((partsOf x.op).take i).map fun c => str (pieceT x c))
  box : Blk wr bx (instCells x.op x.rd x.ra x.rb x.n).toList 30
  mods : Mods None W wr
/-- A part more is written. -/
theorem wr_next {W w6 w7 w8 : World} {x : Ins} {pb : ByteArray} {it bx i : Nat} {c : UInt8} {v v' : Value} {t : List UInt8} (hlt1 : bx < it) (hlt2 : W.heap.size ≤ it) (hc : (partsOf x.op)[i]? = some c) (hp : pieceT x c = t)
    (hm7 : Mods None W w7) (hit : w7.heap[it]? = some (.stringIter pb (i + 1))) (hbx : Blk w7 bx (instCells x.op x.rd x.ra x.rb x.n).toList 30)
    (ho : w6.ownsRow (it + 1) 9 1 v i (((partsOf x.op).take i).map fun c => str (pieceT x c))) (hg : (w7.alloc (.cells #[str t] 9)).grownBy w8 v.ownBlock)
    (hown : w8.ownsRow (it + 1) 9 1 v' (i + 1) ((((partsOf x.op).take i).map fun c => str (pieceT x c)) ++ [str t])) : WrAt W x pb it bx (it + 1) (i + 1) v' w8 := by
  have hbl : ∀ k, v.ownBlock = some k → it + 1 ≤ k := fun k hk => (ho.lt k hk).1
  have hmg : Mods (fun k => v.ownBlock = some k) (w7.alloc (.cells #[str t] 9)) w8 := Mods.of_grownBy hg (fun k hk _ => hk)
  refine ⟨hmg.blockOf ((Below.heap_alloc w7 _ it (lt_of_block hit)).trans hit) (fun e => by have := hbl it e; omega), ?_, (hbx.alloc _).mods hmg (fun e => by have := hbl bx e; omega), (hm7.alloc _).trans' hmg (fun k hk hw => by have := hbl k hk; omega)⟩
  have htk : ((partsOf x.op).take (i + 1)).map (fun c => str (pieceT x c)) = (((partsOf x.op).take i).map fun c => str (pieceT x c)) ++ [str t] := by
    rw [List.take_add_one, hc, List.map_append]
    simp [hp]
  rw [htk]
  exact hown
theorem piece_d (x : Ins) : pieceT x 100 = regT x.rd := rfl
theorem piece_a (x : Ins) : pieceT x 97 = regT x.ra := rfl
theorem piece_b (x : Ins) : pieceT x 98 = regT x.rb := rfl
theorem piece_m (x : Ins) : pieceT x 109 = Lib.itoa x.n ++ [40] ++ regT x.ra ++ [41] := rfl
theorem piece_n (x : Ins) : pieceT x 110 = Lib.itoa x.n := rfl
theorem piece_t (x : Ins) : pieceT x 116 = Lib.itoa x.n := rfl
set_option maxRecDepth 100000 in
set_option maxHeartbeats 2000000 in
theorem print_any (x : Ins) (hx : I64s x) (W : World) (hB : Base W) : Calls Tryz.prog 8 #[x.val] W (PrintP x W) := by
  obtain ⟨W1, hW1⟩ : ∃ W1, W1 = W.alloc (.cells (instCells x.op x.rd x.ra x.rb x.n) 30) := ⟨_, rfl⟩
  have hm1 : Mods None W W1 := by rw [hW1]; exact (Mods.refl _ _).alloc _
  have hb1 : Blk W1 W.heap.size (instCells x.op x.rd x.ra x.rb x.n).toList 30 := by rw [hW1]; exact Blk.new W _ _
  obtain ⟨bx, hbx⟩ : ∃ bx, bx = W.heap.size := ⟨_, rfl⟩
  rw [← hbx] at hb1
  have hR := right_ins x W1 ((hB.next hm1 far_none).forms)
  have hsz : W.heap.size ≤ bx := by omega
  have HB := Lib.hid hB
  have HM1 := Lib.hid hm1
  have HB1 := Lib.hid hb1
  have HX := Lib.hid hx
  have HBX := Lib.hid hbx
  have q0 := hb1.cell (i := 0) rfl
  have q1 := hb1.cell (i := 1) rfl
  have q2 := hb1.cell (i := 2) rfl
  have q3 := hb1.cell (i := 3) rfl
  have q4 := hb1.cell (i := 4) rfl
  obtain ⟨rt, hrt⟩ : ∃ rt, rt = x.right := ⟨_, rfl⟩
  have HRT := Lib.hid hrt
  rw [← hrt] at hR
  have hR' : Calls Tryz.prog 22 #[x.val] W1 fun e w' => e = .returned (.bool rt) ∧ Mods None W1 w' := hR.mono fun e w' ⟨a, b⟩ => ⟨a, by rw [b]; exact (Mods.refl _ _).alloc _⟩
  have HR := Lib.hid hR'
  clear hR hR' hrt hB hm1 hb1 hx hsz
  obtain ⟨op, rd, ra, rb, n⟩ := x
  unfold Ins.val inst instCells at *
  simp only at *
  go_enter Tryz.func8, Tryz.ntmps8
  go_upto_region 1 with (fail)
  rw [← hW1, ← hbx]
  clear hW1 hbx
  go_wp2_with fail
  refine HR.out.mono ?_
  rintro e w2 ⟨rfl, hm2⟩
  have HM2 := Lib.hid (HM1.out.trans hm2)
  have HBK := Lib.hid (HB1.out.mods hm2 (fun f => f))
  clear hm2 q0 q1 q2 q3 q4 HR
  have q0 := HBK.out.cell (i := 0) rfl
  have q1 := HBK.out.cell (i := 1) rfl
  have q2 := HBK.out.cell (i := 2) rfl
  have q3 := HBK.out.cell (i := 3) rfl
  have q4 := HBK.out.cell (i := 4) rfl
  cases rt with
  | false =>
    go_wp2_with fail
    go_ret2
    refine ⟨?_, HM2.out⟩
    rw [← HRT.out]
    rfl
  | true =>
    have HF := Lib.hid (format_any n HX.out.n.1 HX.out.n.2 w2 (HB.out.next HM2.out far_none).pow)
    go_wp2_with fail
    refine HF.out.mono ?_
    rintro e w3 ⟨rfl, hm3⟩
    have HM3 := Lib.hid (HM2.out.trans hm3)
    have HBK3 := Lib.hid (HBK.out.mods hm3 (fun f => f))
    clear hm3 q0 q1 q2 q3 q4 HF HBK HM2
    have q0 := HBK3.out.cell (i := 0) rfl
    go_wp2_with fail
    refine (parts_any op w3).mono ?_
    rintro e w' ⟨rfl, rfl⟩
    obtain ⟨w3, rfl⟩ : ∃ w3 : World, w3 = w' := ⟨_, rfl⟩
    obtain ⟨pb, hpb⟩ : ∃ pb : ByteArray, pb = ⟨(partsOf op).toArray⟩ := ⟨_, rfl⟩
    have hps : pb.size = (partsOf op).length := by rw [hpb]; simp [ByteArray.size]
    have HPB := Lib.hid (And.intro hpb hps)
    obtain ⟨i0, hi, hz0, hz1, hz2⟩ := info_parts string_info
    have HI := Lib.hid (⟨hi, hz0, hz1, hz2⟩ : _ ∧ _ ∧ _ ∧ _)
    unfold str
    rw [← hpb]
    clear hpb hps hi hz0 hz1 hz2 q0
    have HLT : Hid (bx < w3.heap.size ∧ W.heap.size ≤ w3.heap.size) := Lib.hid ⟨HBK3.out.lt, HM3.out.size⟩
    go_wp2_with fail
    go_loopw [6, 8] (fun lv _ wr => ∃ i : Nat, i ≤ pb.size ∧ Hid (WrAt W ⟨op, rd, ra, rb, n⟩ pb w3.heap.size bx (w3.heap.size + 1) i lv wr)) (fun _ _ wr => pb.size - wr.iterPos w3.heap.size)
    case atStart => exact ⟨0, Nat.zero_le _, Lib.hid ⟨World.iter_heap _ _ _, World.ownsRow_nil _ _ _ _, HBK3.out.alloc _, HM3.out.alloc _⟩⟩
    case round =>
      obtain ⟨i, hi, HW⟩ := hrel
      obtain ⟨oa, oc, rfl⟩ := lex_form HW.out.own
      by_cases hlt : i < pb.size
      · obtain ⟨c, hc, hci⟩ : ∃ c, (partsOf op)[i]? = some c ∧ pb[i]'hlt = c := by
          have h1 : i < (partsOf op).length := by rw [← HPB.out.2]; exact hlt
          refine ⟨(partsOf op)[i], List.getElem?_eq_getElem h1, ?_⟩
          have e := HPB.out.1
          subst e
          rfl
        have hcm := parts_in op c (List.mem_of_getElem? hc)
        have hsm : (pb[i]'hlt).toNat < 128 := by rw [hci]; rcases hcm with rfl | rfl | rfl | rfl | rfl | rfl <;> decide
        have hnx0 : ∀ ty, (Instr.next (.pointer (some ⟨w3.heap.size, 0, none⟩)) true ty).run Tryz.prog wr = .ok (.tuple #[.bool true, .int .i64 i, .int .i32 (pb[i]'hlt).toNat]) (wr.iterAt w3.heap.size pb (i + 1)) := fun ty => Lib.run_next_ascii_at wr w3.heap.size pb i ty HW.out.at_ hlt hsm
        obtain ⟨w6, hw6⟩ : ∃ w6, w6 = wr.iterAt w3.heap.size pb (i + 1) := ⟨_, rfl⟩
        rw [← hw6, hci] at hnx0
        have hlt3 := HLT.out
        have HBX6 : Hid (Blk w6 bx (instCells op rd ra rb n).toList 30) := Lib.hid (by rw [hw6]; exact iter_blk HW.out.box (by omega) _ _)
        have HIT : Hid (w6.heap[w3.heap.size]? = some (.stringIter pb (i + 1))) := Lib.hid (by rw [hw6]; exact Lib.iterAt_heap _ _ _ _ _ HW.out.at_)
        have HM6 : Hid (Mods None W w6) := Lib.hid (by rw [hw6]; exact iter_mods HW.out.mods (by omega) _ _)
        have HO6 : Hid (w6.ownsRow (w3.heap.size + 1) 9 1 (.slice oa i oc) i (((partsOf op).take i).map fun c => str (pieceT ⟨op, rd, ra, rb, n⟩ c))) := Lib.hid (by rw [hw6]; exact ownsRow_iterAt HW.out.own (by omega) _ _)
        have HPC := Lib.hid hc
        have HP := Lib.hid (iterPos_of HW.out.at_)
        have HRG := Lib.hid (fun (k : Int) (hk : -9223372036854775808 ≤ k ∧ k ≤ 9223372036854775807) (w : World) (hm : Mods None W w) => reg_any k hk.1 hk.2 w (HB.out.next hm far_none).pow)
        unfold str at HRG
        have hq := HBX6.out
        have q1 := hq.cell (i := 1) rfl
        have q2 := hq.cell (i := 2) rfl
        have q3 := hq.cell (i := 3) rfl
        have HLN := Lib.hid (And.intro (itoa_len (n := n) HX.out.n.1 HX.out.n.2) (show (regT ra).length ≤ 21 by have := itoa_len (n := ra) HX.out.ra.1 HX.out.ra.2; simp only [regT, List.length_cons]; omega))
        have hpl := parts_len op
        have hi3 : i < 3 := by have := HPB.out.2; omega
        have HIN := Lib.hid hlt
        clear hw6 hq HW hc hsm hci hi hpl hlt3
        rcases hcm with rfl | rfl | rfl | rfl | rfl | rfl
        all_goals simp only [UInt8.reduceToNat] at hnx0
        · have hnx := hnx0
          clear hnx0
          go_wp2_with fail
          refine (HRG.out _ HX.out.rd w6 HM6.out).mono ?_
          rintro e w7 ⟨rfl, hm7⟩
          have HM7 := Lib.hid (HM6.out.trans hm7)
          have HIT7 := Lib.hid (iter_mod hm7 HIT.out (fun f => f))
          have HBX7 := Lib.hid (HBX6.out.mods hm7 (fun f => f))
          have HO4 := Lib.hid (((hm7.ownsRow HO6.out (fun k hk f => f)).alloc (.cells #[.string ⟨(regT rd).toArray⟩] 9)))
          clear hm7
          go_wp2_with (at_builtin; refine wpList_append_own_at _ rfl _ _ 59 rfl (w3.heap.size + 1) 9 i0 _ 1 16 Tryz.underlying59 HI.out.1 HI.out.2.1 HI.out.2.2.1 HI.out.2.2.2 rfl (by decide) (.slice oa i oc) i (((partsOf op).take i).map fun c => str (pieceT ⟨op, rd, ra, rb, n⟩ c)) rfl HO4.out ⟨w7.heap.size, 0, none⟩ 1 1 [.string ⟨(regT rd).toArray⟩] rfl rfl (cell_one_new _ _ _) (str_one _) (by unfold maxLen; omega) (by omega) (by have := lt_of_block HIT7.out; simp; omega) ?_; intro v' w8 hown hgrow hnil hloc; have HOW := Lib.hid hown; have HGR : Hid ((w7.alloc (.cells #[.string ⟨(regT rd).toArray⟩] 9)).grownBy w8 (Value.slice oa i oc).ownBlock) := Lib.hid hgrow; clear hown hgrow hnil hloc; refine Hid.out ?_)
          refine Lib.hid ?_
          obtain ⟨qa, qc, rfl⟩ := lex_form HOW.out
          go_wp2_with fail
          have hwn := wr_next (x := ⟨op, rd, ra, rb, n⟩) HLT.out.1 HLT.out.2 HPC.out (piece_d _) HM7.out HIT7.out HBX7.out HO6.out HGR.out HOW.out
          exact ⟨⟨i + 1, by have := HIN.out; omega, Lib.hid hwn⟩, by have h9 := iterPos_of hwn.at_; rw [HP.out, h9]; have := HIN.out; omega⟩
        · have hnx := hnx0
          clear hnx0
          go_wp2_with fail
          refine (HRG.out _ HX.out.ra w6 HM6.out).mono ?_
          rintro e w7 ⟨rfl, hm7⟩
          have HM7 := Lib.hid (HM6.out.trans hm7)
          have HIT7 := Lib.hid (iter_mod hm7 HIT.out (fun f => f))
          have HBX7 := Lib.hid (HBX6.out.mods hm7 (fun f => f))
          have HO4 := Lib.hid (((hm7.ownsRow HO6.out (fun k hk f => f)).alloc (.cells #[.string ⟨(regT ra).toArray⟩] 9)))
          clear hm7
          go_wp2_with (at_builtin; refine wpList_append_own_at _ rfl _ _ 59 rfl (w3.heap.size + 1) 9 i0 _ 1 16 Tryz.underlying59 HI.out.1 HI.out.2.1 HI.out.2.2.1 HI.out.2.2.2 rfl (by decide) (.slice oa i oc) i (((partsOf op).take i).map fun c => str (pieceT ⟨op, rd, ra, rb, n⟩ c)) rfl HO4.out ⟨w7.heap.size, 0, none⟩ 1 1 [.string ⟨(regT ra).toArray⟩] rfl rfl (cell_one_new _ _ _) (str_one _) (by unfold maxLen; omega) (by omega) (by have := lt_of_block HIT7.out; simp; omega) ?_; intro v' w8 hown hgrow hnil hloc; have HOW := Lib.hid hown; have HGR : Hid ((w7.alloc (.cells #[.string ⟨(regT ra).toArray⟩] 9)).grownBy w8 (Value.slice oa i oc).ownBlock) := Lib.hid hgrow; clear hown hgrow hnil hloc; refine Hid.out ?_)
          refine Lib.hid ?_
          obtain ⟨qa, qc, rfl⟩ := lex_form HOW.out
          go_wp2_with fail
          have hwn := wr_next (x := ⟨op, rd, ra, rb, n⟩) HLT.out.1 HLT.out.2 HPC.out (piece_a _) HM7.out HIT7.out HBX7.out HO6.out HGR.out HOW.out
          exact ⟨⟨i + 1, by have := HIN.out; omega, Lib.hid hwn⟩, by have h9 := iterPos_of hwn.at_; rw [HP.out, h9]; have := HIN.out; omega⟩
        · have hnx := hnx0
          clear hnx0
          go_wp2_with fail
          refine (HRG.out _ HX.out.rb w6 HM6.out).mono ?_
          rintro e w7 ⟨rfl, hm7⟩
          have HM7 := Lib.hid (HM6.out.trans hm7)
          have HIT7 := Lib.hid (iter_mod hm7 HIT.out (fun f => f))
          have HBX7 := Lib.hid (HBX6.out.mods hm7 (fun f => f))
          have HO4 := Lib.hid (((hm7.ownsRow HO6.out (fun k hk f => f)).alloc (.cells #[.string ⟨(regT rb).toArray⟩] 9)))
          clear hm7
          go_wp2_with (at_builtin; refine wpList_append_own_at _ rfl _ _ 59 rfl (w3.heap.size + 1) 9 i0 _ 1 16 Tryz.underlying59 HI.out.1 HI.out.2.1 HI.out.2.2.1 HI.out.2.2.2 rfl (by decide) (.slice oa i oc) i (((partsOf op).take i).map fun c => str (pieceT ⟨op, rd, ra, rb, n⟩ c)) rfl HO4.out ⟨w7.heap.size, 0, none⟩ 1 1 [.string ⟨(regT rb).toArray⟩] rfl rfl (cell_one_new _ _ _) (str_one _) (by unfold maxLen; omega) (by omega) (by have := lt_of_block HIT7.out; simp; omega) ?_; intro v' w8 hown hgrow hnil hloc; have HOW := Lib.hid hown; have HGR : Hid ((w7.alloc (.cells #[.string ⟨(regT rb).toArray⟩] 9)).grownBy w8 (Value.slice oa i oc).ownBlock) := Lib.hid hgrow; clear hown hgrow hnil hloc; refine Hid.out ?_)
          refine Lib.hid ?_
          obtain ⟨qa, qc, rfl⟩ := lex_form HOW.out
          go_wp2_with fail
          have hwn := wr_next (x := ⟨op, rd, ra, rb, n⟩) HLT.out.1 HLT.out.2 HPC.out (piece_b _) HM7.out HIT7.out HBX7.out HO6.out HGR.out HOW.out
          exact ⟨⟨i + 1, by have := HIN.out; omega, Lib.hid hwn⟩, by have h9 := iterPos_of hwn.at_; rw [HP.out, h9]; have := HIN.out; omega⟩
        · have hnx := hnx0
          clear hnx0
          have hs0 : ¬ 9223372036854775807 < (Lib.itoa n).length + 1 := by have := HLN.out.1; omega
          have hs1 : ¬ 9223372036854775807 < (Lib.itoa n).length + 1 + (regT ra).length := by have := HLN.out; omega
          have hs2 : ¬ 9223372036854775807 < (Lib.itoa n).length + 1 + (regT ra).length + 1 := by have := HLN.out; omega
          go_wp2_with fail
          refine (HRG.out _ HX.out.ra w6 HM6.out).mono ?_
          rintro e w7 ⟨rfl, hm7⟩
          have HM7 := Lib.hid (HM6.out.trans hm7)
          have HIT7 := Lib.hid (iter_mod hm7 HIT.out (fun f => f))
          have HBX7 := Lib.hid (HBX6.out.mods hm7 (fun f => f))
          have HO4 := Lib.hid (((hm7.ownsRow HO6.out (fun k hk f => f)).alloc (.cells #[.string ⟨(Lib.itoa n ++ [40] ++ regT ra ++ [41]).toArray⟩] 9)))
          clear hm7
          go_wp2_with (at_builtin; refine wpList_append_own_at _ rfl _ _ 59 rfl (w3.heap.size + 1) 9 i0 _ 1 16 Tryz.underlying59 HI.out.1 HI.out.2.1 HI.out.2.2.1 HI.out.2.2.2 rfl (by decide) (.slice oa i oc) i (((partsOf op).take i).map fun c => str (pieceT ⟨op, rd, ra, rb, n⟩ c)) rfl HO4.out ⟨w7.heap.size, 0, none⟩ 1 1 [.string ⟨(Lib.itoa n ++ [40] ++ regT ra ++ [41]).toArray⟩] rfl rfl (cell_one_new _ _ _) (str_one _) (by unfold maxLen; omega) (by omega) (by have := lt_of_block HIT7.out; simp; omega) ?_; intro v' w8 hown hgrow hnil hloc; have HOW := Lib.hid hown; have HGR : Hid ((w7.alloc (.cells #[.string ⟨(Lib.itoa n ++ [40] ++ regT ra ++ [41]).toArray⟩] 9)).grownBy w8 (Value.slice oa i oc).ownBlock) := Lib.hid hgrow; clear hown hgrow hnil hloc; refine Hid.out ?_)
          refine Lib.hid ?_
          obtain ⟨qa, qc, rfl⟩ := lex_form HOW.out
          go_wp2_with fail
          have hwn := wr_next (x := ⟨op, rd, ra, rb, n⟩) HLT.out.1 HLT.out.2 HPC.out (piece_m _) HM7.out HIT7.out HBX7.out HO6.out HGR.out HOW.out
          exact ⟨⟨i + 1, by have := HIN.out; omega, Lib.hid hwn⟩, by have h9 := iterPos_of hwn.at_; rw [HP.out, h9]; have := HIN.out; omega⟩
        · have hnx := hnx0
          clear hnx0
          obtain ⟨w7, hw7⟩ : ∃ w7, w7 = w6 := ⟨_, rfl⟩
          rw [← hw7] at hnx
          have HM7 := HM6
          have HIT7 := HIT
          have HBX7 := HBX6
          have HO4 := Lib.hid (HO6.out.alloc (.cells #[.string ⟨(Lib.itoa n).toArray⟩] 9))
          rw [← hw7] at HM7 HIT7 HBX7 HO4
          clear hw7
          go_wp2_with (at_builtin; refine wpList_append_own_at _ rfl _ _ 59 rfl (w3.heap.size + 1) 9 i0 _ 1 16 Tryz.underlying59 HI.out.1 HI.out.2.1 HI.out.2.2.1 HI.out.2.2.2 rfl (by decide) (.slice oa i oc) i (((partsOf op).take i).map fun c => str (pieceT ⟨op, rd, ra, rb, n⟩ c)) rfl HO4.out ⟨w7.heap.size, 0, none⟩ 1 1 [.string ⟨(Lib.itoa n).toArray⟩] rfl rfl (cell_one_new _ _ _) (str_one _) (by unfold maxLen; omega) (by omega) (by have := lt_of_block HIT7.out; simp; omega) ?_; intro v' w8 hown hgrow hnil hloc; have HOW := Lib.hid hown; have HGR : Hid ((w7.alloc (.cells #[.string ⟨(Lib.itoa n).toArray⟩] 9)).grownBy w8 (Value.slice oa i oc).ownBlock) := Lib.hid hgrow; clear hown hgrow hnil hloc; refine Hid.out ?_)
          refine Lib.hid ?_
          obtain ⟨qa, qc, rfl⟩ := lex_form HOW.out
          go_wp2_with fail
          have hwn := wr_next (x := ⟨op, rd, ra, rb, n⟩) HLT.out.1 HLT.out.2 HPC.out (piece_n _) HM7.out HIT7.out HBX7.out HO6.out HGR.out HOW.out
          exact ⟨⟨i + 1, by have := HIN.out; omega, Lib.hid hwn⟩, by have h9 := iterPos_of hwn.at_; rw [HP.out, h9]; have := HIN.out; omega⟩
        · have hnx := hnx0
          clear hnx0
          obtain ⟨w7, hw7⟩ : ∃ w7, w7 = w6 := ⟨_, rfl⟩
          rw [← hw7] at hnx
          have HM7 := HM6
          have HIT7 := HIT
          have HBX7 := HBX6
          have HO4 := Lib.hid (HO6.out.alloc (.cells #[.string ⟨(Lib.itoa n).toArray⟩] 9))
          rw [← hw7] at HM7 HIT7 HBX7 HO4
          clear hw7
          go_wp2_with (at_builtin; refine wpList_append_own_at _ rfl _ _ 59 rfl (w3.heap.size + 1) 9 i0 _ 1 16 Tryz.underlying59 HI.out.1 HI.out.2.1 HI.out.2.2.1 HI.out.2.2.2 rfl (by decide) (.slice oa i oc) i (((partsOf op).take i).map fun c => str (pieceT ⟨op, rd, ra, rb, n⟩ c)) rfl HO4.out ⟨w7.heap.size, 0, none⟩ 1 1 [.string ⟨(Lib.itoa n).toArray⟩] rfl rfl (cell_one_new _ _ _) (str_one _) (by unfold maxLen; omega) (by omega) (by have := lt_of_block HIT7.out; simp; omega) ?_; intro v' w8 hown hgrow hnil hloc; have HOW := Lib.hid hown; have HGR : Hid ((w7.alloc (.cells #[.string ⟨(Lib.itoa n).toArray⟩] 9)).grownBy w8 (Value.slice oa i oc).ownBlock) := Lib.hid hgrow; clear hown hgrow hnil hloc; refine Hid.out ?_)
          refine Lib.hid ?_
          obtain ⟨qa, qc, rfl⟩ := lex_form HOW.out
          go_wp2_with fail
          have hwn := wr_next (x := ⟨op, rd, ra, rb, n⟩) HLT.out.1 HLT.out.2 HPC.out (piece_t _) HM7.out HIT7.out HBX7.out HO6.out HGR.out HOW.out
          exact ⟨⟨i + 1, by have := HIN.out; omega, Lib.hid hwn⟩, by have h9 := iterPos_of hwn.at_; rw [HP.out, h9]; have := HIN.out; omega⟩
      · obtain rfl : i = pb.size := by omega
        have hpos := HX.out.op
        obtain ⟨⟨o1, o2⟩, -⟩ := right_parts HRT.out.symm
        simp only at o1 o2
        obtain ⟨k, hk⟩ := Int.eq_ofNat_of_zero_le (show 0 ≤ op by omega)
        have hkl : k < 32 := by omega
        have hnm : wr.cell? ⟨1, k, none⟩ = some (.string ⟨(opName op).toArray⟩) := by
          refine (HB.out.next HW.out.mods far_none).names k (opName op) ?_
          unfold opName
          rw [hk, Int.toNat_natCast, List.getD_eq_getElem?_getD]
          have h32 : nameList.length = 32 := rfl
          rw [List.getElem?_eq_getElem (by omega)]
          rfl
        have hnl : (opName op).length ≤ 5 := by
          obtain ⟨f, hf, -⟩ := op_fin o1 o2
          have key : ∀ f : Fin 32, (opName f.val).length ≤ 5 := by decide
          rw [hf]; exact key f
        have hown : wr.ownsRow (w3.heap.size + 1) 9 1 (.slice oa pb.size oc) pb.size (((partsOf op).map (pieceT ⟨op, rd, ra, rb, n⟩)).map str) := by
          have h := HW.out.own
          rw [HPB.out.2, List.take_length] at h
          rw [HPB.out.2, List.map_map]
          exact h
        obtain ⟨L, hL⟩ : ∃ L, L = (partsOf op).map (pieceT ⟨op, rd, ra, rb, n⟩) := ⟨_, rfl⟩
        rw [← hL] at hown
        have hLl : L.length = pb.size := by rw [hL, List.length_map]; exact HPB.out.2.symm
        have hpl := parts_len op
        have hJl : (Lib.join L [44]).length ≤ 200 := by
          rw [hL]
          have hp := fun c => piece_len HX.out c
          revert hpl
          cases partsOf op with
          | nil => intro _; simp [Lib.join_nil]
          | cons c1 r1 =>
            cases r1 with
            | nil => intro _; simp only [List.map_cons, List.map_nil, Lib.join_one]; have := hp c1; omega
            | cons c2 r2 =>
              cases r2 with
              | nil =>
                intro _
                simp only [List.map_cons, List.map_nil, Lib.join_cons, Lib.joinTail]
                have := hp c1; have := hp c2
                simp; omega
              | cons c3 r3 =>
                intro h
                cases r3 with
                | nil =>
                  simp only [List.map_cons, List.map_nil, Lib.join_cons, Lib.joinTail]
                  have := hp c1; have := hp c2; have := hp c3
                  simp; omega
                | cons c4 r4 => simp at h
        have hprint : printB ⟨op, rd, ra, rb, n⟩ = if pb.size = 0 then opName op else opName op ++ [32] ++ Lib.join L [44] := by
          unfold printB
          simp only
          rw [← hL]
          by_cases h0 : partsOf op = []
          · rw [if_pos h0, if_pos (by rw [HPB.out.2, h0]; rfl)]
          · rw [if_neg h0, if_neg (by rw [HPB.out.2]; simpa using h0)]
        have HPR := Lib.hid (And.intro hprint HRT.out)
        have HM := Lib.hid HW.out.mods
        have hbx := HW.out.box
        rw [← hLl] at hown
        have hJ0 := fun (w : World) (hm : Mods None wr w) => join_any L (.slice oa pb.size oc) (by rw [← hLl]; exact hown) (by have := HPB.out.2; omega) (by omega) w hm
        obtain ⟨J, hJ⟩ : ∃ J, J = Lib.join L [44] := ⟨_, rfl⟩
        rw [← hJ] at hJ0 hJl HPR
        have HJ := Lib.hid hJ0
        unfold str at HJ
        have hnx0 : ∀ ty, (Instr.next (.pointer (some ⟨w3.heap.size, 0, none⟩)) true ty).run Tryz.prog wr = .ok (.tuple #[.bool false]) wr := fun ty => Lib.run_next_end_at wr w3.heap.size pb pb.size ty HW.out.at_ (by omega)
        obtain ⟨nm, hnmE⟩ : ∃ nm, nm = opName op := ⟨_, rfl⟩
        rw [← hnmE] at hnm hnl HPR
        subst hk
        have q0 := hbx.cell (i := 0) rfl
        simp only at q0
        have hkl' : (k : Int) < 32 := by omega
        clear hJ0 hJ hown hL hLl hprint HW hbx hpl hpos o1 o2 hi hlt hnmE
        by_cases hz : pb.size = 0
        · have hzi : (pb.size : Int) = 0 := by omega
          have hzb : ((pb.size : Int) == 0) = true := by rw [hzi]; rfl
          go_wp2_with fail
          go_ret2
          refine ⟨?_, HM.out⟩
          rw [← HPR.out.2, if_pos rfl, HPR.out.1, if_pos hz]
          rfl
        · have hzi : ¬ (pb.size : Int) = 0 := by omega
          have hzb : ((pb.size : Int) == 0) = false := by rw [beq_eq_false_iff_ne]; exact hzi
          have hs0 : ¬ 9223372036854775807 < nm.length + 1 := by omega
          have hs1 : ¬ 9223372036854775807 < nm.length + 1 + J.length := by omega
          go_wp2_with fail
          go_region_held3 (fun w' => Hid (Mods None wr w') ∧ w'.cell? ⟨bx, 0, none⟩ = some (.int .i64 (k : Int)) ∧ w'.cell? ⟨1, k, none⟩ = some (.string ⟨nm.toArray⟩))
            (first
              | exact ⟨Lib.hid (Mods.refl _ _).drew, q0, hnm⟩
              | assumption
              | (go_split_ands; exact ⟨Lib.hid (Mods.trans (Hid.out ‹_›) hm9), hm9.cellOf ‹_› (fun f => f), hm9.cellOf ‹_› (fun f => f)⟩))
            ((first
              | (go_at_call 27; go_split_ands; refine (HJ.out _ (Hid.out ‹Hid (Mods None wr _)›)).mono ?_; rintro e w9 ⟨rfl, hm9⟩)))
          all_goals
            go_split_ands
            clear hm9
            go_wp2_with fail
            go_ret2
            refine ⟨?_, Mods.trans HM.out (Hid.out (by assumption))⟩
            rw [← HPR.out.2, if_pos rfl, HPR.out.1, if_neg hz]
            simp [ba_append, str]
end Go.Proofs.YtodgkbcgdbhpeaaGreatDoor.AsmP
