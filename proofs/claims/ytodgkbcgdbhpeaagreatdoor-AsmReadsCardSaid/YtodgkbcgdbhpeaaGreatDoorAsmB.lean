/- Texts of instructions written one by one. Conditions: the tables lie; the instructions lie. -/
import Derived.Test.YtodgkbcgdbhpeaaGreatDoorAsmC
namespace Go.Proofs.YtodgkbcgdbhpeaaGreatDoor.AsmP
open Go.RowKit Go.Proofs.YtodgkbcgdbhpeaaGreatDoor.WordP Go.Proofs.YtodgkbcgdbhpeaaGreatDoor.Wo
set_option linter.unusedVariables false
set_option linter.unusedSimpArgs false
/-- Instructions lie, beyond S. -/
def InsIn (W : World) (S : Nat → Prop) (v : Value) (l : List Ins) : Prop :=
  ∃ oa oc, v = .slice oa l.length oc ∧ (oa = none → oc = 0) ∧ ∀ (i : Nat) (x : Ins), l[i]? = some x → ∃ g o, oa = some ⟨g, o, none⟩ ∧ ¬ S g ∧ W.cell? ⟨g, o + i * 5, none⟩ = some (.int .i64 x.op) ∧ W.cell? ⟨g, o + i * 5 + 1, none⟩ = some (.int .i64 x.rd) ∧ W.cell? ⟨g, o + i * 5 + 2, none⟩ = some (.int .i64 x.ra) ∧ W.cell? ⟨g, o + i * 5 + 3, none⟩ = some (.int .i64 x.rb) ∧ W.cell? ⟨g, o + i * 5 + 4, none⟩ = some (.int .i64 x.n)
theorem InsIn.mods {S T : Nat → Prop} {W W' : World} {v : Value} {l : List Ins} (h : InsIn W S v l) (hm : Mods T W W') (hT : ∀ k, T k → S k) : InsIn W' S v l := by
  obtain ⟨oa, oc, h1, h0, h2⟩ := h
  refine ⟨oa, oc, h1, h0, fun i x hx => ?_⟩
  obtain ⟨g, o, e, hg, c0, c1, c2, c3, c4⟩ := h2 i x hx
  have hn : ¬ T g := fun f => hg (hT g f)
  exact ⟨g, o, e, hg, hm.cellOf c0 hn, hm.cellOf c1 hn, hm.cellOf c2 hn, hm.cellOf c3 hn, hm.cellOf c4 hn⟩
theorem insRow_at {l : List Ins} {i k : Nat} {x : Ins} (hx : l[i]? = some x) (hk : k < 5) : (insRow l)[i * 5 + k]? = (instCells x.op x.rd x.ra x.rb x.n).toList[k]? := by
  induction l generalizing i with
  | nil => simp at hx
  | cons a r ih =>
    have hf : insRow (a :: r) = (instCells a.op a.rd a.ra a.rb a.n).toList ++ insRow r := by unfold insRow; simp
    have hl5 : (instCells a.op a.rd a.ra a.rb a.n).toList.length = 5 := rfl
    rw [hf]
    cases i with
    | zero =>
      simp only [List.getElem?_cons_zero, Option.some.injEq] at hx
      subst hx
      rw [List.getElem?_append_left (by rw [hl5]; omega)]
      simp
    | succ i =>
      rw [List.getElem?_append_right (by rw [hl5]; omega), hl5, show (i + 1) * 5 + k - 5 = i * 5 + k by omega]
      exact ih (by simpa using hx)
theorem InsRow.at_ {W : World} {v : Value} {l : List Ins} (h : InsRow W v l) : InsIn W None v l := by
  obtain ⟨B, hB⟩ := h
  rcases hB.2 with ⟨hv, h0⟩ | ⟨g, cap, cur, hv, _⟩
  · exact ⟨none, 0, by rw [hv, h0], fun _ => rfl, fun i x hx => by rw [List.eq_nil_of_length_eq_zero h0] at hx; simp at hx⟩
  · refine ⟨_, cap, hv, (fun h => by cases h), fun i x hx => ?_⟩
    have key : ∀ k, k < 5 → ∀ u, (instCells x.op x.rd x.ra x.rb x.n).toList[k]? = some u → W.cell? ⟨g, 0 + i * 5 + k, none⟩ = some u := fun k hk u hu => by
      have := hB.cells (g := g) (by rw [hv]; rfl) (i * 5 + k) u (by
        have := insRow_at hx hk
        unfold insRow at this
        rw [this]; exact hu)
      have e2 : (⟨g, 0, none⟩ : Addr).add (i * 5 + k) = ⟨g, 0 + i * 5 + k, none⟩ := by
        unfold Addr.add
        split <;> simp_all
      rw [e2] at this
      exact this
    exact ⟨g, 0, rfl, fun f => f, key 0 (by omega) _ rfl, key 1 (by omega) _ rfl, key 2 (by omega) _ rfl, key 3 (by omega) _ rfl, key 4 (by omega) _ rfl⟩
theorem print_len {x : Ins} (hx : I64s x) : (printB x).length ≤ 210 := by
  have hn : (opName x.op).length ≤ 5 := by
    unfold opName
    rw [List.getD_eq_getElem?_getD]
    cases h : nameList[x.op.toNat]? with
    | none => simp
    | some m =>
      have key : ∀ m ∈ nameList, m.length ≤ 5 := by decide
      exact key m (List.mem_of_getElem? h)
  have hp := fun c => piece_len hx c
  have hpl := parts_len x.op
  unfold printB
  split
  · omega
  · have hJ : (Lib.join ((partsOf x.op).map (pieceT x)) [44]).length ≤ 200 := by
      revert hpl
      cases partsOf x.op with
      | nil => intro _; simp [Lib.join_nil]
      | cons c1 r1 =>
        cases r1 with
        | nil => intro _; simp only [List.map_cons, List.map_nil, Lib.join_one]; have := hp c1; omega
        | cons c2 r2 =>
          cases r2 with
          | nil =>
            intro _
            simp only [List.map_cons, List.map_nil, Lib.join_cons, Lib.joinTail]
            have := hp c1; have := hp c2
            simp; omega
          | cons c3 r3 =>
            intro h
            cases r3 with
            | nil =>
              simp only [List.map_cons, List.map_nil, Lib.join_cons, Lib.joinTail]
              have := hp c1; have := hp c2; have := hp c3
              simp; omega
            | cons c4 r4 => simp at h
    simp only [List.length_append, List.length_singleton]
    omega
theorem text_len (l : List Ins) (h : ∀ x ∈ l, I64s x) : (textB l).length ≤ l.length * 211 := by
  induction l with
  | nil => simp [textB]
  | cons x r ih =>
    rw [textB_cons]
    have := ih (fun y hy => h y (List.mem_cons_of_mem _ hy))
    have := print_len (h x List.mem_cons_self)
    simp
    omega
/-- What the writer answers. -/
def TextP (l : List Ins) (W : World) (e : Ending) (w : World) : Prop := e = .returned (if l.all (·.right) = true then .tuple #[str (textB l), .bool true] else .tuple #[str [], .bool false]) ∧ Mods None W w
theorem text_snoc (l : List Ins) (x : Ins) : textB (l ++ [x]) = textB l ++ (printB x ++ [10]) := by
  unfold textB
  simp
set_option maxRecDepth 100000 in
set_option maxHeartbeats 2000000 in
theorem text_any (l : List Ins) (hl : l.length ≤ 1000) (hx : ∀ x ∈ l, I64s x) (v : Value) (W : World) (hB : Base W) (hI : InsIn W None v l) : Calls Tryz.prog 11 #[v] W (TextP l W) := by
  have HX := Lib.hid hx
  have HB := Lib.hid hB
  have HI := Lib.hid hI
  obtain ⟨oa, oc, rfl, -, -⟩ := hI
  obtain ⟨n, hn⟩ : ∃ n, n = l.length := ⟨_, rfl⟩
  have HN := Lib.hid hn
  rw [← hn] at hl ⊢
  clear hx hB hn
  go_enter Tryz.func11, Tryz.ntmps11
  go_wp2_with fail
  go_loopw [4, 5] (fun tv iv wr => ∃ i : Nat, i ≤ n ∧ iv = .int .i64 i ∧ tv = .string ⟨(textB (l.take i)).toArray⟩ ∧ Hid ((l.take i).all (·.right) = true ∧ Mods None W wr)) (fun _ iv _ => (n - intOf iv).toNat)
  case atStart => exact ⟨0, Nat.zero_le _, rfl, rfl, Lib.hid ⟨rfl, Mods.refl _ _⟩⟩
  case round =>
    obtain ⟨i, hi, rfl, rfl, HO⟩ := hrel
    by_cases hlt : i < n
    · obtain ⟨x, hxi⟩ : ∃ x, l[i]? = some x := ⟨_, List.getElem?_eq_getElem (by rw [← HN.out]; exact hlt)⟩
      obtain ⟨oa', oc', he, -, hc⟩ := HI.out.mods HO.out.2 (fun k h => h)
      obtain ⟨g, o, rfl, -, d0, d1, d2, d3, d4⟩ := hc i x hxi
      simp only [Value.slice.injEq] at he
      obtain ⟨rfl, -, rfl⟩ := he
      have hxm := HX.out x (List.mem_of_getElem? hxi)
      have HP := Lib.hid (print_any x hxm wr (HB.out.next HO.out.2 far_none))
      have hpl := print_len hxm
      have htl := text_len (l.take i) (fun y hy => HX.out y (List.mem_of_mem_take hy))
      have htl2 : (textB (l.take i)).length ≤ 211000 := by rw [List.length_take] at htl; omega
      have hin : (i : Int) < n := by omega
      have HXI := Lib.hid hxi
      obtain ⟨T, hT⟩ : ∃ T, T = textB (l.take i) := ⟨_, rfl⟩
      rw [← hT] at htl2 ⊢
      have HT := Lib.hid hT
      have htk : l.take (i + 1) = l.take i ++ [x] := by rw [List.take_add_one, hxi]; rfl
      have HTK := Lib.hid htk
      clear hc hxi hxm htl hT htk
      go_wp2_with fail
      refine HP.out.mono ?_
      rintro e w2 ⟨rfl, hm2⟩
      have HM2 := Lib.hid (HO.out.2.trans hm2)
      clear hm2 d0 d1 d2 d3 d4 HP
      obtain ⟨rt, hrt⟩ : ∃ rt, rt = x.right := ⟨_, rfl⟩
      rw [← hrt]
      have HRT := Lib.hid hrt
      clear hrt
      cases rt with
      | false =>
        go_wp2_with fail
        go_ret2
        refine ⟨?_, HM2.out⟩
        have : l.all (·.right) = false := by
          rw [List.all_eq_false]
          exact ⟨x, List.mem_of_getElem? HXI.out, by rw [← HRT.out]; decide⟩
        rw [this]
        rfl
      | true =>
        obtain ⟨p, hp⟩ : ∃ p, p = printB x := ⟨_, rfl⟩
        rw [← hp] at hpl ⊢
        have HPX := Lib.hid hp
        clear hp
        unfold str
        have hs0 : ¬ 9223372036854775807 < p.length + 1 := by omega
        have hs1 : ¬ 9223372036854775807 < T.length + (p.length + 1) := by omega
        go_wp2_with fail
        refine ⟨⟨i + 1, by omega, by go_num, ?_, Lib.hid ⟨?_, HM2.out⟩⟩, by simp [intOf]; omega⟩
        · rw [HTK.out, text_snoc, ← HT.out, ← HPX.out]
          show Value.string (⟨T.toArray⟩ ++ (⟨p.toArray⟩ ++ ⟨([10] : List UInt8).toArray⟩)) = _
          rw [ba_append, ba_append]
        · rw [HTK.out, List.all_append, HO.out.1]
          simp [← HRT.out]
    · obtain rfl : i = n := by omega
      have hpi : ¬ (i : Int) < (i : Int) := by omega
      go_wp2_with fail
      go_ret2
      have htk : l.take i = l := List.take_of_length_le (by rw [← HN.out]; exact Nat.le_refl _)
      have h1 := HO.out
      rw [htk] at h1
      refine ⟨?_, h1.2⟩
      rw [if_pos h1.1, htk]
      rfl
end Go.Proofs.YtodgkbcgdbhpeaaGreatDoor.AsmP
