/- Calls are written; expressions, all. Conditions: what is read of the package's variables lies. -/
import Derived.Test.YtinbahmpifokaaaDoorTreeText
import Derived.Test.YtinbahmpifokaaaDoorTreeArgs
namespace Go.Proofs.YtinbahmpifokaaaDoor.TreeP
open Go.RowKit Go.Proofs.YtinbahmpifokaaaDoor.Wo
set_option linter.unusedVariables false
set_option linter.unusedSimpArgs false
theorem textsB_len : (l : List Ex) → (textsB l).length = l.length
  | [] => rfl
  | e :: r => by simp only [textsB, List.length_cons, textsB_len r]
theorem textsB_at : (l : List Ex) → (i : Nat) → (e : Ex) → l[i]? = some e → (textsB l)[i]? = some (textB e)
  | [], i, e, h => by simp at h
  | a :: r, 0, e, h => by
    simp only [List.getElem?_cons_zero, Option.some.injEq] at h
    subst h
    rfl
  | a :: r, i + 1, e, h => by
    simp only [textsB, List.getElem?_cons_succ]
    exact textsB_at r i e (by simpa using h)
theorem ExsAt.at_ {W : World} {S : Nat → Prop} : {l : List Ex} → {vs : List Value} → ExsAt W S l vs → (i : Nat) → (e : Ex) → l[i]? = some e → ∃ v, vs[i]? = some v ∧ ExAt W S e v
  | [], vs, h, i, e, he => by simp at he
  | a :: r, vs, h, i, e, he => by
    simp only [ExsAt] at h
    obtain ⟨x, r2, rfl, h1, h2⟩ := h
    cases i with
    | zero => simp only [List.getElem?_cons_zero, Option.some.injEq] at he; subst he; exact ⟨x, rfl, h1⟩
    | succ i => exact ExsAt.at_ h2 i e (by simpa using he)
theorem NumsE.at_ : {l : List Ex} → NumsE l → (i : Nat) → (e : Ex) → l[i]? = some e → NumE e
  | [], h, i, e, he => by simp at he
  | a :: r, h, i, e, he => by
    simp only [NumsE] at h
    cases i with
    | zero => simp only [List.getElem?_cons_zero, Option.some.injEq] at he; subst he; exact h.1
    | succ i => exact NumsE.at_ h.2 i e (by simpa using he)
/-- Each is no longer than all, joined. -/
theorem join_ge (sep : List UInt8) : (l : List (List UInt8)) → (i : Nat) → (t : List UInt8) → l[i]? = some t → t.length ≤ (Lib.join l sep).length
  | [], i, t, h => by simp at h
  | [a], i, t, h => by
    cases i with
    | zero => simp only [List.getElem?_cons_zero, Option.some.injEq] at h; subst h; simp [Lib.join]
    | succ i => simp at h
  | a :: b :: r, i, t, h => by
    have hj : Lib.join (a :: b :: r) sep = a ++ sep ++ Lib.join (b :: r) sep := by simp [Lib.join, List.intercalate, List.intersperse]
    rw [hj]
    simp only [List.length_append]
    cases i with
    | zero => simp only [List.getElem?_cons_zero, Option.some.injEq] at h; subst h; omega
    | succ i =>
      have := join_ge sep (b :: r) i t (by simpa using h)
      omega
theorem join_many (sep : List UInt8) (hs : 1 ≤ sep.length) : (l : List (List UInt8)) → l.length ≤ (Lib.join l sep).length + 1
  | [] => by simp
  | [a] => by simp
  | a :: b :: r => by
    have hj : Lib.join (a :: b :: r) sep = a ++ sep ++ Lib.join (b :: r) sep := by simp [Lib.join, List.intercalate, List.intersperse]
    rw [hj]
    have := join_many sep hs (b :: r)
    simp only [List.length_append, List.length_cons] at this ⊢
    omega
theorem str_one (s : ByteArray) : ∀ u ∈ [Value.string s], u.oneCell' = true := by
  intro u hu
  simp only [List.mem_singleton] at hu
  subst hu
  rfl
theorem string_info : (Tryd.prog.info? 9).map (fun i => (i.zero, i.size, i.bytes)) = some (some (.string ⟨#[]⟩), 1, 16) := by kernel_rfl
/-- Where the loop stands: so many are written. -/
def TxAt (W : World) (L : List (List UInt8)) (lv iv : Value) (wr : World) : Prop :=
  ∃ i : Nat, i ≤ L.length ∧ iv = .int .i64 i ∧ wr.ownsRow W.heap.size 9 1 lv i ((L.take i).map str) ∧ Mods None W wr
theorem lex_form {W : World} {B : Nat} {e : TypeId} {size n : Nat} {v : Value} {vs : List Value} (h : W.ownsRow B e size v n vs) : ∃ oa oc, v = .slice oa n oc := by
  rcases h.2 with ⟨hv, h0⟩ | ⟨g, cap, cur, hv, _⟩
  · exact ⟨_, _, by rw [hv, h0]⟩
  · exact ⟨_, _, hv⟩
theorem join_any (L : List (List UInt8)) (lv : Value) {w0 : World} {B : Nat} (hown : w0.ownsRow B 9 1 lv L.length (L.map str)) (hn : L.length ≤ 2000000000) (hl : (Lib.join L [44, 32]).length ≤ 1000000000) (w : World) (hm : Mods None w0 w) :
    Calls Tryd.prog 16 #[lv, .string ⟨#[44, 32]⟩] w fun r w' => r = .returned (.string ⟨(Lib.join L [44, 32]).toArray⟩) ∧ Mods None w w' := by
  rcases hown.2 with ⟨rfl, h0⟩ | ⟨g, cap, cur, rfl, _, hg, h3, h4, _⟩
  · have hL0 : L = [] := List.eq_nil_of_length_eq_zero h0
    subst hL0
    exact (Tryd.strings_Join_none none 0 ⟨#[44, 32]⟩ w).mono fun e w' h => ⟨by rw [h.1]; rfl, by rw [h.2]; exact Mods.refl _ _⟩
  · have hcells := hown.cells (g := g) rfl
    have hlt := (hown.lt g rfl).2
    have hmap : (L.map (fun (t : List UInt8) => (⟨t.toArray⟩ : ByteArray))).map (·.data.toList) = L := by
      rw [List.map_map]
      conv => rhs; rw [← List.map_id L]
      apply List.map_congr_left
      intro t _
      simp
    have hj := Tryd.strings_Join g 0 cap (L.map fun (t : List UInt8) => (⟨t.toArray⟩ : ByteArray)) ⟨#[44, 32]⟩ w (by
      intro j x hx
      rw [List.getElem?_map, Option.map_eq_some_iff] at hx
      obtain ⟨t, ht, rfl⟩ := hx
      have := hcells j (str t) (by rw [List.getElem?_map, ht]; rfl)
      rw [Nat.zero_add]
      refine hm.cellOf ?_ (fun f => f)
      cases j with
      | zero => exact this
      | succ j => simpa [Addr.add, str] using this) (Nat.lt_of_lt_of_le hlt hm.size) (by rw [List.length_map]; omega) (by rw [List.length_map]; exact h3) (by rw [hmap]; exact Nat.le_trans hl (by decide))
    rw [List.length_map, hmap] at hj
    exact hj.mono fun e w' h => ⟨h.1, Mods.of_below h.2⟩
set_option maxRecDepth 100000 in
set_option maxHeartbeats 3200000 in
theorem text_call (a : Int) (f : List UInt8) {args : List Ex} (hA : ∀ e ∈ args, TextC e) : TextC (.call a f args) := by
  intro v W hP hn hl h
  simp only [ExAt, NumE] at h hn
  obtain ⟨xv, vs, ⟨g, rfl, _, hb⟩, hrow, hex⟩ := h
  have c0 : W.cell? ⟨g, 0, none⟩ = some (.int .i64 5) := hb.cell (i := 0) rfl
  have c3 : W.cell? ⟨g, 3, none⟩ = some (.string ⟨f.toArray⟩) := hb.cell (i := 3) rfl
  have c7 : W.cell? ⟨g, 7, none⟩ = some xv := hb.cell (i := 7) rfl
  simp only [textB] at hl ⊢
  simp only [List.length_append] at hl
  obtain ⟨L, hL⟩ : ∃ L, L = textsB args := ⟨_, rfl⟩
  have hLn : L.length = args.length := by rw [hL, textsB_len]
  have hlj : (Lib.join L [44, 32]).length ≤ 1000000000 := by rw [hL]; omega
  have hmany := join_many [44, 32] (by decide) L
  -- each argument
  have HC := Lib.hid (fun (i : Nat) (e : Ex) (he : args[i]? = some e) (w : World) (hm : Mods None W w) => by
    obtain ⟨y, hy, hye⟩ := hex.at_ i e he
    have hle := join_ge [44, 32] L i (textB e) (by rw [hL]; exact textsB_at args i e he)
    exact (⟨y, hy, hye.ptr, hA e (List.mem_of_getElem? he) y w (hP.next hm) (hn.at_ i e he) (by omega) (hye.mods hm)⟩ : ∃ y, vs[i]? = some y ∧ (∃ g, y = .pointer (some ⟨g, 0, none⟩)) ∧ Calls Tryd.prog 27 #[y] w fun r w' => r = .returned (.string ⟨(textB e).toArray⟩) ∧ Mods None w w'))
  obtain ⟨i0, hi, hz0, hz1, hz2⟩ := info_parts string_info
  have HI := Lib.hid (⟨hi, hz0, hz1, hz2⟩ : _ ∧ _ ∧ _ ∧ _)
  rw [← hL]
  have HAT := Lib.hid (fun (i : Nat) (hi : i < L.length) => by
    have hi2 : i < args.length := by omega
    exact (⟨args[i], List.getElem?_eq_getElem hi2, by rw [hL]; exact textsB_at args i _ (List.getElem?_eq_getElem hi2)⟩ : ∃ e, args[i]? = some e ∧ L[i]? = some (textB e)))
  have HR := Lib.hid hrow.1
  have HJ := Lib.hid (⟨hlj, hmany⟩ : _ ∧ _)
  have hlf : f.length ≤ 1000000000 := by omega
  clear hb hn hex hA hP hl hi hz0 hz1 hz2 hlj hmany
  obtain ⟨J, hJ⟩ : ∃ J, J = Lib.join L [44, 32] := ⟨_, rfl⟩
  have hJl : J.length ≤ 1000000000 := by rw [hJ]; exact HJ.out.1
  rw [← hJ]
  -- the joined ones, of any slice that holds them
  have HJN0 := Lib.hid (fun (lv : Value) (w0 : World) (hown : w0.ownsRow W.heap.size 9 1 lv L.length (L.map str)) (w : World) (hm : Mods None w0 w) => join_any L lv hown (by have := HJ.out.2; have := HJ.out.1; omega) HJ.out.1 w hm)
  rw [← hJ] at HJN0
  rcases Go.Joins.ownsRow_forms hrow.1 with ⟨rfl, h0⟩ | ⟨q, cap, rfl⟩
  · have hL0 : L = [] := List.eq_nil_of_length_eq_zero (by omega)
    have HJN := Lib.hid (HJN0.out (.slice none 0 0) W (by rw [hL0]; exact World.ownsRow_nil _ _ _ _))
    have HMS := Lib.hid (Mods.refl None W)
    clear HAT HC HR hL0 hL hLn hJ hrow
    go_enter Tryd.func27, Tryd.ntmps27
    go_wp2_with fail
    go_loopw [4, 68] (fun lv iv wr => lv = .slice none 0 0 ∧ iv = .int .i64 0 ∧ Hid (W = wr)) (fun _ _ _ => 0)
    case atStart => exact ⟨rfl, rfl, Lib.hid (by first | trivial | rfl)⟩
    case round =>
      obtain ⟨rfl, rfl, hw⟩ := hrel
      obtain rfl := hw.out
      clear hw
      go_wp2_with fail
      have hs0 : ¬ 9223372036854775807 < f.length + 1 := by omega
      have hs1 : ¬ 9223372036854775807 < f.length + 1 + J.length := by omega
      have hs2 : ¬ 9223372036854775807 < f.length + 1 + J.length + 1 := by omega
      go_region_held3 (fun w' => Hid (Mods None W w') ∧ w'.cell? ⟨g, 3, none⟩ = some (.string ⟨f.toArray⟩))
        (first
          | exact ⟨Lib.hid (Mods.refl _ _).drew, c3⟩
          | assumption
          | (go_split_ands; exact ⟨Lib.hid (Mods.trans (Hid.out ‹_›) hm9), hm9.cellOf ‹_› (fun f => f)⟩))
        ((first
          | (go_at_call 16; go_split_ands; refine (HJN.out _ (Hid.out ‹Hid (Mods None W _)›)).mono ?_; rintro e w9 ⟨rfl, hm9⟩)))
      all_goals
        go_split_ands
        clear hm9
        go_wp2_with fail
        go_ret
        refine ⟨congrArg Ending.returned (congrArg Value.string ?_), Mods.trans HMS.out (Hid.out (by assumption))⟩
        first
          | (simp only [ba_append]; done)
          | (simp [ba_append])
  · have hrowcells := hrow.1.cells (g := q) rfl
    have HRC := Lib.hid (fun (i : Nat) (y : Value) (hy : vs[i]? = some y) => by
      have := hrowcells i y hy
      exact (show W.cell? ⟨q, i, none⟩ = some y from by
        cases i with
        | zero => exact this
        | succ i => simpa [Addr.add] using this))
    have hcap : args.length ≤ cap ∧ cap ≤ 9223372036854775807 := by
      rcases hrow.1.2 with ⟨hv, _⟩ | ⟨g2, cap2, cur2, hv, _, _, h3, h4, _⟩
      · cases hv
      · cases hv; exact ⟨h3, by unfold maxLen at h4; omega⟩
    have hlen9 : L.length ≤ 1000000001 := by have := HJ.out.2; have := HJ.out.1; omega
    have HLN := Lib.hid hLn
    clear hrow hrowcells hL hJ HR hLn
    go_enter Tryd.func27, Tryd.ntmps27
    go_wp2_with fail
    go_loopw [4, 68] (fun lv iv wr => TxAt W L lv iv wr) (fun _ iv _ => (L.length - intOf iv).toNat)
    case atStart => exact ⟨0, Nat.zero_le _, rfl, World.ownsRow_nil _ _ _ _, Mods.refl _ _⟩
    case round =>
      obtain ⟨i, hi, rfl, hown, hm⟩ := hrel
      have HO := Lib.hid hown
      have HM := Lib.hid hm
      clear hown hm
      have hLA := HLN.out
      by_cases hlt : i < L.length
      · obtain ⟨e, he1, he2⟩ := HAT.out i hlt
        obtain ⟨y, hy, ⟨gy, rfl⟩, hcall⟩ := HC.out i e he1 wr HM.out
        have hcy := HM.out.cellOf (HRC.out i _ hy) (fun f => f)
        have HCL := Lib.hid hcall
        have HE2 := Lib.hid he2
        have hil : (i : Int) < (args.length : Int) := by omega
        clear hLA
        obtain ⟨oa, oc, rfl⟩ := lex_form HO.out
        clear he1 he2 hy hcall
        go_wp2_with fail
        go_at_call 27
        refine HCL.out.mono ?_
        rintro r w4 ⟨rfl, hm4⟩
        have HM4 := Lib.hid (HM.out.trans hm4)
        have HO4 := Lib.hid ((hm4.ownsRow HO.out (fun k hk f => f)).alloc (.cells #[.string ⟨(textB e).toArray⟩] 9))
        clear hm4
        go_wp2_with (at_builtin; refine wpList_append_own_at _ rfl _ _ 58 rfl W.heap.size 9 i0 _ 1 16 Tryd.underlying58 HI.out.1 HI.out.2.1 HI.out.2.2.1 HI.out.2.2.2 rfl (by decide) (.slice oa i oc) i ((L.take i).map str) rfl HO4.out ⟨w4.heap.size, 0, none⟩ 1 1 [.string ⟨(textB e).toArray⟩] rfl rfl (one_new _ _ _) (str_one _) (by unfold maxLen; omega) (by omega) (by have := HM4.out.size; simp; omega) ?_; intro v' w5 hown hgrow hnil hloc; have HOW := Lib.hid hown; have HGR : Hid ((w4.alloc (.cells #[.string ⟨(textB e).toArray⟩] 9)).grownBy w5 (Value.slice oa i oc).ownBlock) := Lib.hid hgrow; clear hown hgrow hnil hloc; refine Hid.out ?_)
        refine Lib.hid ?_
        obtain ⟨qa, qc, rfl⟩ := lex_form HOW.out
        go_wp2_with fail
        have hm5 : Mods None W w5 := (HM4.out.alloc _).trans' (Mods.of_grownBy HGR.out (S := fun k => (Value.slice oa i oc).ownBlock = some k) (fun k hk _ => hk)) (fun k hk hw => by have := (HO.out.lt k hk).1; omega)
        refine ⟨⟨i + 1, by omega, by go_num, ?_, hm5⟩, by simp [intOf]; omega⟩
        have htk : (L.take (i + 1)).map str = (L.take i).map str ++ [.string ⟨(textB e).toArray⟩] := by
          rw [List.take_add_one, HE2.out, List.map_append]; rfl
        rw [htk]
        exact HOW.out
      · obtain rfl : i = L.length := by omega
        have hil : ¬ (L.length : Int) < (args.length : Int) := by omega
        clear hLA
        have HO5 := Lib.hid (show wr.ownsRow W.heap.size 9 1 _ L.length (L.map str) from by have := HO.out; rwa [List.take_length] at this)
        have HJN := Lib.hid (HJN0.out _ wr HO5.out)
        have HMS := HM
        have c3 := HM.out.cellOf c3 (fun f => f)
        obtain ⟨oa, oc, rfl⟩ := lex_form HO5.out
        clear HO HAT HC HRC HJN0 HO5 HI HJ HLN
        go_wp2_with fail
        have hs0 : ¬ 9223372036854775807 < f.length + 1 := by omega
        have hs1 : ¬ 9223372036854775807 < f.length + 1 + J.length := by omega
        have hs2 : ¬ 9223372036854775807 < f.length + 1 + J.length + 1 := by omega
        go_region_held3 (fun w' => Hid (Mods None wr w') ∧ w'.cell? ⟨g, 3, none⟩ = some (.string ⟨f.toArray⟩))
          (first
            | exact ⟨Lib.hid (Mods.refl _ _).drew, c3⟩
            | assumption
            | (go_split_ands; exact ⟨Lib.hid (Mods.trans (Hid.out ‹_›) hm9), hm9.cellOf ‹_› (fun f => f)⟩))
          ((first
            | (go_at_call 16; go_split_ands; refine (HJN.out _ (Hid.out ‹Hid (Mods None wr _)›)).mono ?_; rintro e w9 ⟨rfl, hm9⟩)))
        all_goals
          go_split_ands
          clear hm9
          go_wp2_with fail
          go_ret
          refine ⟨congrArg Ending.returned (congrArg Value.string ?_), Mods.trans HMS.out (Hid.out (by assumption))⟩
          first
            | (simp only [ba_append]; done)
            | (simp [ba_append])
mutual
theorem text_any : (e : Ex) → TextC e
  | .num a n => text_num a n
  | .var a s => text_var a s
  | .bin a op l r => text_bin a op (at_of (text_any l)) (at_of (text_any r))
  | .un a op x => text_un a op (at_of (text_any x))
  | .call a f args => text_call a f (texts_any args)
  | .new a x => text_new a (text_any x)
  | .len a x => text_len a (text_any x)
  | .item a x i => by
    cases hu : isUn x
    · exact text_item_at a hu (at_of (text_any x)) (text_any i)
    · exact text_item_un a hu (text_any x) (text_any i)
  | .input a => text_input a
theorem texts_any : (l : List Ex) → ∀ e ∈ l, TextC e
  | [], e, h => nomatch h
  | a :: r, e, h => by
    rcases List.mem_cons.1 h with he | h
    · rw [he]; exact text_any a
    · exact texts_any r e h
end
end Go.Proofs.YtinbahmpifokaaaDoor.TreeP
