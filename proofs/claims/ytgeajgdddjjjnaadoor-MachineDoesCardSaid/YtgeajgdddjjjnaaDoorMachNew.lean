/- A machine is begun: a contract of machine.New. Conditions: that its arguments read as lists. -/
import Derived.Test.YtgeajgdddjjjnaaDoorMachEnd
import Derived.Laws.MakeOwn
import Derived.Laws.Entries
import Derived.Test.YtgeajgdddjjjnaaDoorSteps
namespace Go.Proofs.YtgeajgdddjjjnaaDoor.MachP
open Go.RowKit Go.Proofs.YtgeajgdddjjjnaaDoor.Wo Go.Proofs.YtgeajgdddjjjnaaDoor.WordP
set_option linter.unusedVariables false
set_option linter.unusedSimpArgs false

/-- A slice of words that reads as a list. -/
def WordsAt (W : World) (v : Value) (l : List Int) : Prop :=
  ∃ a n c, v = .slice a n c ∧ n = l.length ∧ n ≤ c ∧ c ≤ maxLen ∧ (∀ i x, l[i]? = some x → (0 ≤ x ∧ x < 4294967296) ∧ ∃ g o, a = some ⟨g, o, none⟩ ∧ W.cell? ⟨g, o + i, none⟩ = some (.int .u32 x))
def newErr (bytes : Int) (n : Nat) : Option Int := if bytes < 8 ∨ 65536 < bytes ∨ bytes % 8 ≠ 0 then some 2 else if bytes < 4 * n then some 4 else none
set_option maxHeartbeats 400000 in
theorem new_range (v0 v2 : Value) (bytes : Int) (W : World) (h : bytes < 8 ∨ 65536 < bytes ∨ bytes % 8 ≠ 0) :
    Calls Tryd.prog 15 #[v0, .int .i64 bytes, v2] W fun e W' => e = .returned (.tuple #[.pointer none, .iface 54 (.int .i64 2)]) ∧ W = W' := by
  by_cases h1 : bytes < 8
  · go_enter Tryd.func15, Tryd.ntmps15
    go_wp2
    go_ret2
    exact ⟨rfl, rfl⟩
  · by_cases h2 : 65536 < bytes
    · go_enter Tryd.func15, Tryd.ntmps15
      go_wp2
      go_ret2
      exact ⟨rfl, rfl⟩
    · have h3 : (bytes % 8 != 0) = true := by rcases h with h | h | h <;> simp <;> omega
      clear h
      go_enter Tryd.func15, Tryd.ntmps15
      go_wp2
      go_ret2
      exact ⟨rfl, rfl⟩
set_option maxHeartbeats 400000 in
theorem new_limit (a : Option Addr) (n c : Nat) (v2 : Value) (bytes : Int) (W : World) (h1 : 8 ≤ bytes) (h2 : bytes ≤ 65536) (h3 : bytes % 8 = 0) (h4 : bytes < 4 * n) (hn : n ≤ maxLen) :
    Calls Tryd.prog 15 #[.slice a n c, .int .i64 bytes, v2] W fun e W' => e = .returned (.tuple #[.pointer none, .iface 54 (.int .i64 4)]) ∧ W = W' := by
  have h5 : (bytes % 8 != 0) = false := by simp; omega
  have h6 : bytes / 4 < (n : Int) := by omega
  unfold maxLen at hn
  clear h3 h4
  go_enter Tryd.func15, Tryd.ntmps15
  go_wp2
  go_ret2
  exact ⟨rfl, rfl⟩
theorem over_snoc {l s : List Int} {x : Int} (h : s.length < l.length) : over l 0 (s ++ [x]) = (over l 0 s).set s.length x := by
  simp only [over, List.take_zero, List.nil_append, Nat.zero_add, List.length_append, List.length_singleton, List.append_assoc]
  rw [List.set_append_right _ _ (Nat.le_refl _), Nat.sub_self, List.drop_eq_getElem_cons h, List.set_cons_zero]
  rfl
/-- What stands behind the machine's making. -/
structure Made (W W2 : World) (b bm : Nat) (inv : Value) (bytes : Nat) (l : List Int) : Prop where
  blk : Blk W2 b (macCells ⟨List.replicate 32 0, List.replicate bytes 0, 0, l, 0, 0, []⟩ bm inv (.slice none 0 0)) 82
  mem : Blk W2 bm ((List.replicate bytes 0).map (.int .u8)) 5
  ins : IntsAt W2 inv l
  own : ∀ k, inv.ownBlock = some k → k ≠ b ∧ k ≠ bm ∧ W.heap.size ≤ k ∧ k < W2.heap.size
  ne : bm ≠ b
  b0 : W.heap.size ≤ b
  bm0 : W.heap.size ≤ bm
  mods : Mods None W W2
theorem Tryd.info5 : (Tryd.prog.info? 5).map (fun i => (i.zero, i.size, i.bytes)) = some (some (.int .u8 0), 1, 1) := by kernel_rfl
theorem run_make_row1 {P : Program} (t e : TypeId) (i : TypeInfo) (z : Value) (ht : P.underlying t = some (.slice e)) (hi : P.info? e = some i) (hz : i.zero = some z)
    (kl kc : IntKind) (n : Nat) (hbytes : i.bytes * n ≤ 281474976710656) (h63 : n ≤ 9223372036854775807) (w : World) :
    (Instr.makeSlice t (.int kl (n : Int)) (.int kc (n : Int))).run P w = .ok (.slice (some ⟨w.heap.size, 0, none⟩) n n) (w.alloc (.cells (madeCells z.cells (n * i.size)) e)) := by
  have hb : (i.bytes : Int) * (n : Int) ≤ 281474976710656 := by
    have h : ((i.bytes * n : Nat) : Int) ≤ 281474976710656 := by omega
    rwa [Int.natCast_mul] at h
  have hr := run_make (P := P) w t e i z ht hi hz kl kc n n (by omega) (by omega) hb (by omega)
  simp only [Int.toNat_natCast] at hr
  exact hr
theorem made_of {W w1 : World} {bm B : Nat} {inv : Value} {l : List Int} (hm : Mods None W w1) (hmem : Blk w1 bm ((List.replicate B 0).map (.int .u8)) 5) (hins : IntsAt w1 inv l)
    (hown : ∀ k, inv.ownBlock = some k → k ≠ bm ∧ W.heap.size ≤ k ∧ k < w1.heap.size) (hbm : W.heap.size ≤ bm) (cs : Array Value) (hcs : cs.toList = macCells ⟨List.replicate 32 0, List.replicate B 0, 0, l, 0, 0, []⟩ bm inv (.slice none 0 0)) :
    Made W (w1.alloc (.cells cs 82)) w1.heap.size bm inv B l := by
  have h1 := hmem.lt
  have h2 := hm.size
  have hm2 : Mods None w1 (w1.alloc (.cells cs 82)) := (Mods.refl _ _).alloc _
  refine ⟨?_, hmem.alloc _, hins.mods hm2 (fun _ _ f => f), fun k hk => ?_, by omega, h2, hbm, hm.alloc _⟩
  · rw [← hcs]; exact Blk.new w1 _ _
  · obtain ⟨h3, h4, h5⟩ := hown k hk
    exact ⟨by omega, h3, h4, by simp; omega⟩
theorem new_cells (B bm : Nat) (inv : Value) (l : List Int) : macCells ⟨List.replicate 32 0, List.replicate B 0, 0, l, 0, 0, []⟩ bm inv (.slice none 0 0) =
    [.int .i64 0, .int .i64 0, .int .i64 0, .int .i64 0, .int .i64 0, .int .i64 0, .int .i64 0, .int .i64 0, .int .i64 0, .int .i64 0, .int .i64 0, .int .i64 0, .int .i64 0, .int .i64 0, .int .i64 0, .int .i64 0,
     .int .i64 0, .int .i64 0, .int .i64 0, .int .i64 0, .int .i64 0, .int .i64 0, .int .i64 0, .int .i64 0, .int .i64 0, .int .i64 0, .int .i64 0, .int .i64 0, .int .i64 0, .int .i64 0, .int .i64 0, .int .i64 0,
     .slice (some ⟨bm, 0, none⟩) B B, .int .i64 0, inv, .int .i64 0, .int .i64 0, .slice none 0 0] := by
  simp only [macCells, tailCells, List.length_replicate]
  rfl
theorem ints_own {w : World} {B : Nat} {v : Value} {l : List Int} (h : w.ownsRow B 2 1 v l.length (l.map (.int .i64))) (hl : l.length ≤ 65536) : IntsAt w v l := by
  obtain ⟨h1, h2⟩ := h
  rcases h2 with ⟨hv, h0⟩ | ⟨g, cap, cur, hv, hg, hh, hn, hc, hsz, ht⟩
  · refine ⟨_, _, _, hv, h0.symm, Nat.le_refl _, by decide, fun i x hx => ?_⟩
    rw [List.length_eq_zero_iff.1 h0] at hx
    simp at hx
  · refine ⟨_, _, _, hv, rfl, hn, hc, fun i x hx => ⟨g, 0, rfl, ?_⟩⟩
    have h3 : (cur.toList.take (l.length * 1))[i]? = some (Value.int .i64 x) := by rw [ht, List.getElem?_map, hx]; rfl
    have h4 : i < l.length := by
      rcases Nat.lt_or_ge i l.length with h | h
      · exact h
      · rw [List.getElem?_eq_none h] at hx; cases hx
    rw [List.getElem?_take_of_lt (by omega)] at h3
    simp only [World.cell?, hh, Nat.zero_add]
    simpa using h3
theorem ints_news {W w' : World} {a2 : Addr} {n c : Nat} {l : List Int} (h : IntsAt W (.slice (some a2) n c) l) (hm : Mods None W w') : ∀ j u, (l.map (Value.int .i64))[j]? = some u → w'.cell? (a2.add j) = some u := by
  obtain ⟨p, n, c, he, h1, h2, h3, h4⟩ := h
  intro j u hu
  rw [List.getElem?_map] at hu
  cases hx : l[j]? with
  | none => rw [hx] at hu; cases hu
  | some x =>
    rw [hx] at hu
    obtain rfl : Value.int .i64 x = u := by simpa using hu
    obtain ⟨g, o, rfl, hc⟩ := h4 j x hx
    obtain rfl : a2 = ⟨g, o, none⟩ := by simp at he; exact he.1
    have hadd : (⟨g, o, none⟩ : Addr).add j = ⟨g, o + j, none⟩ := by unfold Addr.add; split <;> simp_all
    rw [hadd]
    exact hm.cellOf hc (fun f => f)
theorem own_A (W : World) (o : Obj) : ((W.alloc o).alloc (.cells #[] 2)).ownsRow W.heap.size 2 1 (.slice (some ⟨W.heap.size + 1, 0, none⟩) 0 0) 0 [] := by
  have := World.ownsRow_made (base := W.heap.size) (e := 2) (size := 1) (W.alloc o) #[] 0 (by simp) (by decide) rfl
  simpa using this
theorem own_B (W : World) (o : Obj) : ((W.alloc (.cells #[] 2)).alloc o).ownsRow W.heap.size 2 1 (.slice (some ⟨W.heap.size, 0, none⟩) 0 0) 0 [] :=
  (World.ownsRow_made (base := W.heap.size) (e := 2) (size := 1) W #[] 0 (Nat.le_refl _) (by decide) rfl).alloc o
theorem mem_A (W : World) (B : Nat) (o : Obj) : Blk (((W.alloc (.cells (Array.replicate B (.int .u8 0)) 5)).alloc o).drew) W.heap.size ((List.replicate B 0).map (.int .u8)) 5 := by
  have := ((Blk.new W (Array.replicate B (.int .u8 0)) 5).alloc o).drew
  simpa using this
theorem mem_B (W : World) (B : Nat) (o : Obj) : Blk (((W.alloc o).alloc (.cells (Array.replicate B (.int .u8 0)) 5)).drew) (W.heap.size + 1) ((List.replicate B 0).map (.int .u8)) 5 := by
  have := (Blk.new (W.alloc o) (Array.replicate B (.int .u8 0)) 5).drew
  simpa using this
/-- Made, the array first. -/
theorem made_AB {W W3 w1 : World} {bm eb B : Nat} {va : Option Addr} {vm vc : Nat} {l : List Int} (hm3 : Mods None W W3) (hb : Blk W3 bm ((List.replicate B 0).map (.int .u8)) 5) (hbe : bm ≠ eb) (he : W.heap.size ≤ eb) (he2 : eb < W3.heap.size) (hbm : W.heap.size ≤ bm)
    (hgrow : W3.grownBy w1 (Value.slice (some ⟨eb, 0, none⟩) 0 0).ownBlock) (hat : (Value.slice va vm vc).ownBlock = (Value.slice (some ⟨eb, 0, none⟩) 0 0).ownBlock ∨ (Value.slice va vm vc).ownBlock = some W3.heap.size) (hown : w1.ownsRow W.heap.size 2 1 (.slice va vm vc) l.length (l.map (.int .i64))) (hl : l.length ≤ 65536)
    (cs : Array Value) (hcs : cs.toList = macCells ⟨List.replicate 32 0, List.replicate B 0, 0, l, 0, 0, []⟩ bm (.slice va vm vc) (.slice none 0 0)) :
    Made W (w1.alloc (.cells cs 82)) w1.heap.size bm (.slice va vm vc) B l := by
  have hm4 : Mods (fun k => eb = k) W3 w1 := Mods.of_grownBy hgrow (fun k hk _ => by simpa [Value.ownBlock] using hk)
  have h1 := hb.lt
  refine made_of (hm3.trans' hm4 (fun i hi hlt => by omega)) (hb.mods hm4 (fun e => hbe e.symm)) (ints_own hown hl) (fun k hk => ?_) hbm cs hcs
  have h2 := hown.lt k hk
  refine ⟨?_, h2.1, h2.2⟩
  rcases hat with hat | hat
  · rw [hk] at hat
    obtain rfl : k = eb := by simpa [Value.ownBlock] using hat
    exact hbe.symm
  · rw [hk] at hat
    obtain rfl : k = W3.heap.size := by simpa using hat
    omega
/-- Made, the array behind the numbers. -/
theorem made_C {W W3 w1 : World} {eb B : Nat} {va : Option Addr} {vm vc : Nat} {l : List Int} (hm3 : Mods None W W3) (he : W.heap.size ≤ eb) (he2 : eb < W3.heap.size)
    (hgrow : W3.grownBy w1 (Value.slice (some ⟨eb, 0, none⟩) 0 0).ownBlock) (hown : w1.ownsRow W.heap.size 2 1 (.slice va vm vc) l.length (l.map (.int .i64))) (hl : l.length ≤ 65536)
    (ms cs : Array Value) (hms : ms.toList = (List.replicate B 0).map (.int .u8)) (hcs : cs.toList = macCells ⟨List.replicate 32 0, List.replicate B 0, 0, l, 0, 0, []⟩ w1.heap.size (.slice va vm vc) (.slice none 0 0)) :
    Made W ((w1.alloc (.cells ms 5)).alloc (.cells cs 82)) (w1.heap.size + 1) w1.heap.size (.slice va vm vc) B l := by
  have hm4 : Mods (fun k => eb = k) W3 w1 := Mods.of_grownBy hgrow (fun k hk _ => by simpa [Value.ownBlock] using hk)
  have hm5 : Mods None W w1 := hm3.trans' hm4 (fun i hi hlt => by omega)
  have h1 := hm5.size
  have hb : Blk (w1.alloc (.cells ms 5)) w1.heap.size ((List.replicate B 0).map (.int .u8)) 5 := by rw [← hms]; exact Blk.new w1 _ _
  have := made_of (hm5.alloc (.cells ms 5)) hb ((ints_own hown hl).mods ((Mods.refl None w1).alloc _) (fun _ _ f => f)) (fun k hk => by
    have h2 := hown.lt k hk
    exact ⟨by omega, h2.1, by simp; omega⟩) h1 cs hcs
  simpa using this
theorem Made.drew {W W2 : World} {b bm : Nat} {inv : Value} {B : Nat} {l : List Int} (h : Made W W2 b bm inv B l) : Made W W2.drew b bm inv B l :=
  ⟨h.blk.drew, h.mem.drew, h.ins.mods ((Mods.refl None W2).drew) (fun _ _ f => f), h.own, h.ne, h.b0, h.bm0, h.mods.drew⟩
theorem made_0A (W : World) (B : Nat) (cs : Array Value) (hcs : cs.toList = macCells ⟨List.replicate 32 0, List.replicate B 0, 0, [], 0, 0, []⟩ W.heap.size (.slice (some ⟨W.heap.size + 1, 0, none⟩) 0 0) (.slice none 0 0)) :
    Made W (((W.alloc (.cells (Array.replicate B (.int .u8 0)) 5)).alloc (.cells #[] 2)).alloc (.cells cs 82)) (W.heap.size + 1 + 1) W.heap.size (.slice (some ⟨W.heap.size + 1, 0, none⟩) 0 0) B [] := by
  have := made_of (W := W) (w1 := (W.alloc (.cells (Array.replicate B (.int .u8 0)) 5)).alloc (.cells #[] 2)) (((Mods.refl None W).alloc _).alloc _) (mem_A W B (.cells #[] 2)) (l := []) (inv := .slice (some ⟨W.heap.size + 1, 0, none⟩) 0 0)
    ⟨_, _, _, rfl, rfl, Nat.le_refl _, by decide, fun i x hx => by simp at hx⟩ (fun k hk => by
      obtain rfl : W.heap.size + 1 = k := by simpa [Value.ownBlock] using hk
      exact ⟨by omega, by omega, by simp⟩) (Nat.le_refl _) cs hcs
  simpa using this
theorem made_0B (W : World) (B : Nat) (cs : Array Value) (hcs : cs.toList = macCells ⟨List.replicate 32 0, List.replicate B 0, 0, [], 0, 0, []⟩ (W.heap.size + 1) (.slice (some ⟨W.heap.size, 0, none⟩) 0 0) (.slice none 0 0)) :
    Made W (((W.alloc (.cells #[] 2)).alloc (.cells (Array.replicate B (.int .u8 0)) 5)).alloc (.cells cs 82)) (W.heap.size + 1 + 1) (W.heap.size + 1) (.slice (some ⟨W.heap.size, 0, none⟩) 0 0) B [] := by
  have := made_of (W := W) (w1 := (W.alloc (.cells #[] 2)).alloc (.cells (Array.replicate B (.int .u8 0)) 5)) (((Mods.refl None W).alloc _).alloc _) (mem_B W B (.cells #[] 2)) (l := []) (inv := .slice (some ⟨W.heap.size, 0, none⟩) 0 0)
    ⟨_, _, _, rfl, rfl, Nat.le_refl _, by decide, fun i x hx => by simp at hx⟩ (fun k hk => by
      obtain rfl : W.heap.size = k := by simpa [Value.ownBlock] using hk
      exact ⟨by omega, by omega, by simp; omega⟩) (by omega) cs hcs
  simpa using this
theorem made_row (B : Nat) : madeCells (Value.int .u8 0).cells (B * 1) = ((List.replicate B 0).map (Value.int .u8)).toArray := by
  apply Array.ext
  · simp [madeCells]
  · intro i h1 h2
    simp [madeCells, Value.cells, Nat.mod_one]
theorem wordBytes_length : ∀ (l : List Int), (wordBytes l).length = 4 * l.length
  | [] => rfl
  | x :: r => by
    have := wordBytes_length r
    unfold wordBytes at this ⊢
    rw [List.flatMap_cons, List.length_append, digits_length, this, List.length_cons]
    omega
theorem wordBytes_snoc (l : List Int) (x : Int) : wordBytes (l ++ [x]) = wordBytes l ++ digits 4 x := by simp [wordBytes]
theorem take_one {l : List Int} {i : Nat} {x : Int} (h : l[i]? = some x) : l.take (i + 1) = l.take i ++ [x] := by
  obtain ⟨h1, h2⟩ := List.getElem?_eq_some_iff.1 h
  rw [List.take_succ_eq_append_getElem h1, h2]
theorem digits_take {k : Nat} {x : Int} (h : k < 4) : (digits 4 x).take (k + 1) = (digits 4 x).take k ++ [x / 2 ^ (8 * k) % 256] := by
  have h1 : k < (digits 4 x).length := by rw [digits_length]; exact h
  rw [← digits_getD 4 x k h]
  exact take_one (getD_some h1)
theorem own_C (W : World) : (W.alloc (.cells #[] 2)).ownsRow W.heap.size 2 1 (.slice (some ⟨W.heap.size, 0, none⟩) 0 0) 0 [] :=
  World.ownsRow_made (base := W.heap.size) (e := 2) (size := 1) W #[] 0 (Nat.le_refl _) (by decide) rfl
theorem over_zeros (B : Nat) (s : List Int) (h : s.length ≤ B) : over (List.replicate B 0) 0 s = s ++ List.replicate (B - s.length) 0 := by
  simp [over]
theorem new_ok (ws l : List Int) (B : Nat) (hB : B ≤ 65536) (hws : 4 * ws.length ≤ B) : (Mac.new ws B l).Ok := by
  refine ⟨by simp [Mac.new], ?_, ?_⟩
  · intro b hb
    simp only [Mac.new, List.mem_append] at hb
    rcases hb with hb | hb
    · simp only [wordBytes, List.mem_flatMap] at hb
      obtain ⟨x, _, hb⟩ := hb
      exact digits_byte 4 x b hb
    · have := List.eq_of_mem_replicate hb
      omega
  · simp only [Mac.new, List.length_append, wordBytes_length, List.length_replicate]
    omega
theorem new_mach {W wc wo : World} {b bm B : Nat} {inv : Value} {ws l : List Int} (h : Made W wc b bm inv B l) (hm : Mods (· = bm) wc wo) (hb : Blk wo bm ((over (List.replicate B 0) 0 (wordBytes ws)).map (.int .u8)) 5) (hB : B ≤ 65536) (hws : 4 * ws.length ≤ B) :
    Mach (wo.setCell ⟨b, 2, none⟩ (.int .i64 B)) b (fun k => k = b ∨ k = bm ∨ inv.ownBlock = some k) (Mac.new ws B l) := by
  have h1 : Blk wo b (macCells ⟨List.replicate 32 0, List.replicate B 0, 0, l, 0, 0, []⟩ bm inv (.slice none 0 0)) 82 := h.blk.mods hm (fun e => h.ne e.symm)
  have hlen : (Mac.new ws B l).mem.length = B := by
    simp only [Mac.new, List.length_append, wordBytes_length, List.length_replicate]; omega
  have hcs : (macCells ⟨List.replicate 32 0, List.replicate B 0, 0, l, 0, 0, []⟩ bm inv (.slice none 0 0)).set 2 (.int .i64 B) = macCells (Mac.new ws B l) bm inv (.slice none 0 0) := by
    rw [new_cells]
    simp only [macCells, tailCells, hlen]
    rfl
  have hm2 : Mods (· = b) wo (wo.setCell ⟨b, 2, none⟩ (.int .i64 B)) := Mods.setCell (S := (· = b)) (p := ⟨b, 2, none⟩) (Mods.refl _ _) (fun _ => rfl) _
  refine ⟨bm, inv, .slice none 0 0, ⟨new_ok ws l B hB hws, ?_, ?_, ?_, ?_, h.ne, ?_, ?_, ?_⟩, ?_, .inl rfl, .inr (.inl rfl), fun k hk => .inr (.inr hk), fun k hk => by simp [Value.ownBlock] at hk⟩
  · rw [← hcs]; exact h1.set 2 _
  · have e : (Mac.new ws B l).mem = over (List.replicate B 0) 0 (wordBytes ws) := by
      rw [over_zeros _ _ (by rw [wordBytes_length]; exact hws), wordBytes_length]; rfl
    rw [e]
    exact hb.mods hm2 h.ne
  · exact (h.ins.mods hm (fun k hk => (h.own k hk).2.1)).mods hm2 (fun k hk => (h.own k hk).1)
  · exact World.ownsRow_nil _ _ _ _
  · intro k hk; simp [Value.ownBlock] at hk
  · intro k hk
    exact ⟨(h.own k hk).1, (h.own k hk).2.1, by simp [Value.ownBlock]⟩
  · simp [Mac.new]
  · intro k hk
    have h2 := hm.size
    have h3 : (wo.setCell ⟨b, 2, none⟩ (.int .i64 B)).heap.size = wo.heap.size := by simp
    rw [h3]
    rcases hk with rfl | rfl | hk
    · exact h1.lt
    · exact hb.lt
    · have := (h.own k hk).2.2.2; omega
set_option maxRecDepth 100000 in
set_option maxHeartbeats 1000000 in
theorem new_made (v0 v2 : Value) (ws l : List Int) (B : Nat) (W : World) (hB8 : 8 ≤ B) (hB : B ≤ 65536) (hB0 : B % 8 = 0) (hw : WordsAt W v0 ws) (hws : 4 * ws.length ≤ B) (hl : IntsAt W v2 l) (hll : l.length ≤ 65536) (hnil : ∀ n c, v2 = .slice none n c → c = 0) :
    Calls Tryd.prog 15 #[v0, .int .i64 B, v2] W fun e W' => ∃ b : Nat, e = .returned (.tuple #[.pointer (some ⟨b, 0, none⟩), .nilIface]) ∧ ∃ O, Mach W' b O (Mac.new ws B l) ∧ (∀ k, O k → W.heap.size ≤ k) ∧ Mods None W W' := by
  have h5 : (((B : Int)) % 8 != 0) = false := by simp; omega
  obtain ⟨a0, n0, c0, rfl, hn0, hnc0, hcm0, hcell0⟩ := hw
  have h6 : (n0 : Int) ≤ (B : Int) / 4 := by omega
  obtain ⟨i0, hi, hz0, hz1, hz2⟩ := info_parts Tryd.info2
  obtain ⟨i5, hi5, hz50, hz51, hz52⟩ := info_parts Tryd.info5
  have hmk : ∀ w : World, (Instr.makeSlice 79 (.int .i64 (B : Int)) (.int .i64 (B : Int))).run Tryd.prog w = .ok (.slice (some ⟨w.heap.size, 0, none⟩) B B) (w.alloc (.cells ((List.replicate B 0).map (Value.int .u8)).toArray 5)) := fun w => by
    have h := run_make_row1 (P := Tryd.prog) 79 5 i5 (.int .u8 0) Tryd.underlying79 hi5 hz50 .i64 .i64 B (by rw [hz52]; omega) (by omega) w
    rw [h, hz51]
    have e : madeCells (Value.int .u8 0).cells (B * 1) = ((List.replicate B 0).map (Value.int .u8)).toArray := made_row B
    rw [e]
  have HN0 := Lib.hid hn0
  have HC0 := Lib.hid hcell0
  have HL := Lib.hid hl
  have hn0' : n0 ≤ 16384 := by omega
  obtain ⟨Q, hQ⟩ : ∃ Q : Ending → World → Prop, Q = fun e W' => ∃ b : Nat, e = .returned (.tuple #[.pointer (some ⟨b, 0, none⟩), .nilIface]) ∧ ∃ O, Mach W' b O (Mac.new ws B l) ∧ (∀ k, O k → W.heap.size ≤ k) ∧ Mods None W W' := ⟨_, rfl⟩
  rw [← hQ]
  have HQ := Lib.hid hQ
  clear hn0 hcell0 hB0 hQ hl
  obtain ⟨a2, n2, c2, rfl, hn2, hnc2, hcm2, hcell2⟩ := HL.out
  have HNIL := Lib.hid hnil
  clear hnil
  have HN2 := Lib.hid hn2
  have hn2' : n2 ≤ 65536 := by omega
  clear hcell2 hn2
  unfold maxLen at hcm0 hcm2
  go_enter Tryd.func15, Tryd.ntmps15
  go_upto_region 5 with (fail)
  go_cut [8] (fun p W2 => ∃ b bm inv, p = .pointer (some ⟨b, 0, none⟩) ∧ Hid (Made W W2 b bm inv B l))
  case first =>
    cases a2 with
    | none =>
      obtain rfl : c2 = 0 := HNIL.out _ _ rfl
      obtain rfl : n2 = 0 := by omega
      obtain rfl : l = [] := List.eq_nil_of_length_eq_zero HN2.out.symm
      go_region_law (first | (refine step_append_none rfl (.tmp 34) (.tmp 35) 45 rfl W.heap.size 2 i0 1 Tryd.underlying45 hi (.slice (some ⟨W.heap.size + 1, 0, none⟩) 0 0) 0 [] (by simp [Act.eval, Act.put]) (own_A W _) (by simp [Act.eval, Act.put]) ?_) | (refine step_append_none rfl (.tmp 34) (.tmp 35) 45 rfl W.heap.size 2 i0 1 Tryd.underlying45 hi (.slice (some ⟨W.heap.size, 0, none⟩) 0 0) 0 [] (by simp [Act.eval, Act.put]) (own_B W _) (by simp [Act.eval, Act.put]) ?_) | (refine step_append_none rfl (.tmp 34) (.tmp 35) 45 rfl W.heap.size 2 i0 1 Tryd.underlying45 hi (.slice (some ⟨W.heap.size, 0, none⟩) 0 0) 0 [] (by simp [Act.eval, Act.put]) (own_C W) (by simp [Act.eval, Act.put]) ?_))
      · go_wp2_with fail
        go_meet
        case rel => exact ⟨_, _, _, rfl, Lib.hid (made_0A W B _ (new_cells _ _ _ _).symm).drew⟩
      · go_wp2_with fail
        go_meet
        case rel => exact ⟨_, _, _, rfl, Lib.hid (made_0B W B _ (new_cells _ _ _ _).symm).drew⟩
      · go_wp2_with fail
        go_meet
        case rel => exact ⟨_, _, _, rfl, Lib.hid (made_0B W B _ (new_cells _ _ _ _).symm).drew⟩
    | some a2 =>
      go_region_law (first | (refine step_append_at rfl (.tmp 34) (.tmp 35) 45 rfl W.heap.size 2 i0 (.int .i64 0) 1 8 Tryd.underlying45 hi hz0 hz1 hz2 rfl (by decide) (.slice (some ⟨W.heap.size + 1, 0, none⟩) 0 0) 0 [] (by simp [Act.eval, Act.put]) (own_A W _) a2 n2 c2 (l.map (.int .i64)) (by simp [Act.eval, Act.put]) (by rw [List.length_map, HN2.out, Nat.mul_one]) (ints_news HL.out (by repeat (first | with_reducible exact Mods.refl _ _ | with_reducible refine Mods.drew ?_ | with_reducible refine Mods.alloc ?_ _))) (fun u hu => by (simp only [List.mem_map] at hu; obtain ⟨_, _, rfl⟩ := hu; rfl)) (by unfold maxLen; omega) (by omega) (by first | (simp; done) | (simp; omega)) ?_; intro v' w1 hown hgrow hat; obtain ⟨va, vm, vc, rfl⟩ := form_any hown) | (refine step_append_at rfl (.tmp 34) (.tmp 35) 45 rfl W.heap.size 2 i0 (.int .i64 0) 1 8 Tryd.underlying45 hi hz0 hz1 hz2 rfl (by decide) (.slice (some ⟨W.heap.size, 0, none⟩) 0 0) 0 [] (by simp [Act.eval, Act.put]) (own_B W _) a2 n2 c2 (l.map (.int .i64)) (by simp [Act.eval, Act.put]) (by rw [List.length_map, HN2.out, Nat.mul_one]) (ints_news HL.out (by repeat (first | with_reducible exact Mods.refl _ _ | with_reducible refine Mods.drew ?_ | with_reducible refine Mods.alloc ?_ _))) (fun u hu => by (simp only [List.mem_map] at hu; obtain ⟨_, _, rfl⟩ := hu; rfl)) (by unfold maxLen; omega) (by omega) (by first | (simp; done) | (simp; omega)) ?_; intro v' w1 hown hgrow hat; obtain ⟨va, vm, vc, rfl⟩ := form_any hown) | (refine step_append_at rfl (.tmp 34) (.tmp 35) 45 rfl W.heap.size 2 i0 (.int .i64 0) 1 8 Tryd.underlying45 hi hz0 hz1 hz2 rfl (by decide) (.slice (some ⟨W.heap.size, 0, none⟩) 0 0) 0 [] (by simp [Act.eval, Act.put]) (own_C W) a2 n2 c2 (l.map (.int .i64)) (by simp [Act.eval, Act.put]) (by rw [List.length_map, HN2.out, Nat.mul_one]) (ints_news HL.out (by repeat (first | with_reducible exact Mods.refl _ _ | with_reducible refine Mods.drew ?_ | with_reducible refine Mods.alloc ?_ _))) (fun u hu => by (simp only [List.mem_map] at hu; obtain ⟨_, _, rfl⟩ := hu; rfl)) (by unfold maxLen; omega) (by omega) (by first | (simp; done) | (simp; omega)) ?_; intro v' w1 hown hgrow hat; obtain ⟨va, vm, vc, rfl⟩ := form_any hown))
      · go_wp2_with fail
        go_meet
        case rel => exact ⟨_, _, _, rfl, Lib.hid (made_AB (W3 := ((W.alloc (.cells (Array.replicate B (.int .u8 0)) 5)).alloc (.cells #[] 2)).drew) (((Mods.refl None W).alloc _).alloc _).drew (mem_A W B (.cells #[] 2)) (by omega) (by omega) (by simp) (Nat.le_refl _) hgrow hat (by have h := hown; simp only [Nat.zero_add, List.nil_append, HN2.out] at h; exact h) hll _ (new_cells _ _ _ _).symm)⟩
      · go_wp2_with fail
        go_meet
        case rel => exact ⟨_, _, _, rfl, Lib.hid (made_AB (W3 := ((W.alloc (.cells #[] 2)).alloc (.cells (Array.replicate B (.int .u8 0)) 5)).drew) (((Mods.refl None W).alloc _).alloc _).drew (mem_B W B (.cells #[] 2)) (by omega) (Nat.le_refl _) (by simp; omega) (by omega) hgrow hat (by have h := hown; simp only [Nat.zero_add, List.nil_append, HN2.out] at h; exact h) hll _ (new_cells _ _ _ _).symm)⟩
      · go_wp2_with fail
        go_meet
        case rel => exact ⟨_, _, _, rfl, Lib.hid (made_C (W3 := (W.alloc (.cells #[] 2)).drew) (((Mods.refl None W).alloc _)).drew (Nat.le_refl _) (by simp) hgrow (by have h := hown; simp only [Nat.zero_add, List.nil_append, HN2.out] at h; exact h) hll (Array.replicate B (.int .u8 0)) _ (by simp) (new_cells _ _ _ _).symm)⟩
  case rest =>
    obtain ⟨b, bm, inv, rfl, hmade⟩ := hcut
    go_wp2_with fail
    have HMADE := hmade
    clear hmade
    go_loopw [41] (fun v wr => ∃ i : Nat, i ≤ n0 ∧ v = .int .i64 i ∧ Hid (Blk wr bm ((over (List.replicate B 0) 0 (wordBytes (ws.take i))).map (.int .u8)) 5) ∧ Hid (Mods (· = bm) wc wr)) (fun v _ => (n0 - intOf v).toNat)
    case atStart => exact ⟨0, Nat.zero_le _, rfl, Lib.hid (by simpa [over, wordBytes] using HMADE.out.mem), Lib.hid (Mods.refl _ _)⟩
    case round =>
      obtain ⟨i, hi2, rfl, hblk, hmods⟩ := hrel
      obtain ⟨wo, hwo⟩ : ∃ wo : World, wo = wr := ⟨_, rfl⟩
      subst hwo
      by_cases hin : i < n0
      · have hx := getD_some (l := ws) (i := i) (by rw [← HN0.out]; exact hin)
        obtain ⟨x, hx'⟩ : ∃ x, x = ws.getD i 0 := ⟨_, rfl⟩
        rw [← hx'] at hx
        obtain ⟨hxb, g, o, he, hc⟩ := HC0.out i x hx
        have hc' : wo.cell? ⟨g, o + i, none⟩ = some (.int .u32 x) := hmods.out.cellOf (HMADE.out.mods.cellOf hc (fun f => f)) (fun e => by
          have h1 := World.block_lt_of_cell? W _ hc
          have h2 := HMADE.out.bm0
          have : g = bm := e
          have : g < W.heap.size := h1
          omega)
        have HX := Lib.hid hx
        subst he
        clear hc hx hx'
        go_wp2_with fail
        go_loopw [46] (fun v wq => ∃ k : Nat, k ≤ 4 ∧ v = .int .i64 k ∧ Hid (Blk wq bm ((over (List.replicate B 0) 0 (wordBytes (ws.take i) ++ (digits 4 x).take k)).map (.int .u8)) 5) ∧ Hid (Mods (· = bm) wc wq)) (fun v _ => (4 - intOf v).toNat)
        case atStart => exact ⟨0, Nat.zero_le _, rfl, Lib.hid (by simpa using hblk.out), hmods⟩
        case round =>
          obtain ⟨k, hk, rfl, hblk2, hmods2⟩ := hrel
          by_cases hk4 : k < 4
          · have hlen : (wordBytes (ws.take i) ++ (digits 4 x).take k).length = 4 * i + k := by
              rw [List.length_append, wordBytes_length, List.length_take, List.length_take, digits_length, ← HN0.out]; omega
            have h8 : 4 * i + k < B := by
              have := HN0.out; omega
            have hcm : wr.cell? ⟨b, 32, none⟩ = some (.slice (some ⟨bm, 0, none⟩) B B) := by
              have h1 : Blk wr b _ _ := HMADE.out.blk.mods hmods2.out (fun e => HMADE.out.ne e.symm)
              exact h1.cell (by rw [new_cells]; rfl)
            have hcell : ∃ y, wr.cell? ⟨bm, 4 * i + k, none⟩ = some y := by
              have h1 : 4 * i + k < ((over (List.replicate B 0) 0 (wordBytes (ws.take i) ++ (digits 4 x).take k)).map (Value.int .u8)).length := by
                rw [List.length_map, over_length _ _ _ (by rw [hlen, List.length_replicate]; omega), List.length_replicate]; exact h8
              exact ⟨_, hblk2.out.cell (List.getElem?_eq_getElem h1)⟩
            obtain ⟨y, hcell⟩ := hcell
            have hfree := hblk2.out.free (4 * i + k)
            have HLEN := Lib.hid hlen
            clear hlen
            go_wp2
            go_region
            go_wp2
            go_roundw
            case rel =>
              refine ⟨k + 1, by omega, by go_num, Lib.hid ?_, Lib.hid ((hmods2.out.setCell (fun _ => rfl) _).drew)⟩
              rw [digits_take hk4, ← List.append_assoc, over_snoc (by rw [HLEN.out, List.length_replicate]; exact h8), HLEN.out, List.map_set]
              exact (hblk2.out.set (4 * i + k) _).drew
            case measure => simp [intOf]; omega
          · obtain rfl : k = 4 := by omega
            go_wp2
            go_roundw
            case rel =>
              refine ⟨i + 1, by omega, by go_num, Lib.hid ?_, hmods2⟩
              have h9 := hblk2.out
              rw [List.take_of_length_le (l := digits 4 x) (by rw [digits_length]; exact Nat.le_refl _)] at h9
              rw [take_one HX.out, wordBytes_snoc]
              exact h9
            case measure => simp [intOf]; omega
      · obtain rfl : i = n0 := by omega
        have h1 : Blk wo b _ _ := HMADE.out.blk.mods hmods.out (fun e => HMADE.out.ne e.symm)
        have hc2 : wo.cell? ⟨b, 2, none⟩ = some (.int .i64 0) := h1.cell (by rw [new_cells]; rfl)
        have hf2 := h1.free 2
        have hblk3 : Hid (Blk wo bm ((over (List.replicate B 0) 0 (wordBytes ws)).map (.int .u8)) 5) := Lib.hid (by
          have h9 := hblk.out
          rw [HN0.out, List.take_length] at h9
          exact h9)
        clear h1
        go_wp2
        rw [HQ.out]
        have hms : Mods None W wo := (HMADE.out.mods).trans' hmods.out (fun k hk hlt => by have := HMADE.out.bm0; omega)
        refine ⟨b, rfl, _, new_mach HMADE.out hmods.out hblk3.out hB hws, fun k hk => ?_, hms.setCell (fun hlt => by have := HMADE.out.b0; exact absurd hlt (by show ¬ b < _; omega)) _⟩
        rcases hk with rfl | rfl | hk
        · exact HMADE.out.b0
        · exact HMADE.out.bm0
        · exact (HMADE.out.own k hk).2.2.1
end Go.Proofs.YtgeajgdddjjjnaaDoor.MachP
