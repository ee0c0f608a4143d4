/- mid's Run: how steps end. Printed by mkmrn2.py. Conditions: what it is given lies. -/
import Derived.Test.YtnicpmoanjddbaaGreatDoorMidRnA
namespace Go.Proofs.YtnicpmoanjddbaaGreatDoor.MidP
open Go.RowKit Go.Proofs.YtnicpmoanjddbaaGreatDoor.Wo Go.Maps Go.Proofs.YtnicpmoanjddbaaGreatDoor.TreeP
set_option linter.unusedVariables false
set_option linter.unusedSimpArgs false
theorem mcall_zero (L : List Fm) : CallC L 0 := by
  intro g vs b mb base P M A s W lv r h hv hgl hfn hr
  simp only [callM] at hr
  cases hr
theorem mcall_good {L : List Fm} (hL : GoodM L) (f : Nat) : CallC L f := by
  have : ∀ f k, k ≤ f → CallC L k := by
    intro f
    induction f with
    | zero => intro k hk; obtain rfl : k = 0 := by omega
              exact mcall_zero L
    | succ f ih =>
      intro k hk
      by_cases h : k ≤ f
      · exact ih k h
      · obtain rfl : k = f + 1 := by omega
        exact mcall_any hL ih
  exact this f f (Nat.le_refl _)
/-- Names none twice. -/
def ApartM (L : List Fm) : Prop := L.Pairwise fun a b => a.name ≠ b.name
theorem apart_heads : (r A : List Fm) → headsB A r = true → r.Pairwise (fun a b => a.name ≠ b.name) ∧ ∀ a ∈ A, ∀ b ∈ r, a.name ≠ b.name
  | [], A, _ => ⟨List.Pairwise.nil, fun a _ b hb => by cases hb⟩
  | f :: r, A, h => by
    rw [headsB_cons] at h
    split at h
    · cases h
    · rename_i hn
      obtain ⟨h1, h2⟩ := apart_heads r (A ++ [f]) h
      refine ⟨List.pairwise_cons.2 ⟨fun b hb => h2 f (by simp) b hb, h1⟩, fun a ha b hb => ?_⟩
      rcases List.mem_cons.1 hb with rfl | hb
      · intro e
        apply hn
        refine Or.inr (Or.inr ?_)
        rw [List.any_eq_true]
        exact ⟨a, ha, by simpa using e⟩
      · exact h2 a (by simp [ha]) b hb
theorem code_parts {L : List Fm} (h : codeB L = true) : ApartM L ∧ (∃ fn, fmOf L [109, 97, 105, 110] = some fn) ∧ L.length ≤ 12 := by
  rw [codeB_eq] at h
  simp only [Bool.and_eq_true, decide_eq_true_eq] at h
  refine ⟨(apart_heads L [] h.1.1.2).1, ?_, h.1.1.1⟩
  obtain ⟨f, hf, hm⟩ := List.any_eq_true.1 h.2
  unfold fmOf
  cases hx : L.find? (fun f => f.name == [109, 97, 105, 110]) with
  | some y => exact ⟨y, rfl⟩
  | none =>
    have := List.find?_eq_none.1 hx f hf
    unfold mainP at hm
    simp only [Bool.and_eq_true] at hm
    exact absurd hm.1 this
theorem callM_ends {L : List Fm} {f : Nat} {s : RS} {g : List UInt8} {vs : List V} {y : Except Sig Int × RS} (h : callM L f s g vs = some y) : (∃ n, y.1 = .ok n) ∨ ∃ w, y.1 = .error (.stop w) := by
  rcases (keptM_all L f).2 s g vs y h with ⟨w, h⟩ | ⟨⟨n, h⟩, _⟩
  · exact Or.inr ⟨w, h⟩
  · exact Or.inl ⟨n, h⟩
/-- How steps end, right or not. -/
def runC (L : List Fm) (f : Nat) (given : List Int) (fuel : Nat) : Option (Int × Int × List Int) := if codeB L = true then runM L f given fuel else some (9, 0, [])
set_option maxRecDepth 100000 in
set_option maxHeartbeats 4000000 in
theorem mrun_any {L : List Fm} (hok : ∀ f ∈ L, FmOk f) (f : Nat) (given : List Int) (fuel : Int) (x : Int × Int × List Int) (hx : runC L f given fuel.toNat = some x) (cb : Nat) (v iv : Value) (W : World) (hcb : W.cell? ⟨cb, 0, none⟩ = some v) (hv : FmsAt W None v L) (hFo : FormsAt W) (hOp : OpsAt W) (hi : InAt W None iv given) (hi0 : ∀ n c, iv = .slice none n c → c = 0) (hl : given.length ≤ 1000000) (hf : fuel ≤ 4000000000000000000) (hf2 : -9223372036854775808 ≤ fuel) :
    Calls Tryz.prog 9 #[.pointer (some ⟨cb, 0, none⟩), iv, .int .i64 fuel] W fun e w => ∃ u, e = .returned u ∧ EndV w x u ∧ Mods None W w := by
  have hmk := mk_mfns
  obtain ⟨W1, hW1⟩ : ∃ W1, W1 = W.alloc (.cells #[.int .i64 0, .int .i64 0, .slice none 0 0] 31) := ⟨_, rfl⟩
  have hm1 : Mods None W W1 := by rw [hW1]; exact (Mods.refl _ _).alloc _
  have hE1 : Blk W1 W.heap.size [.int .i64 0, .int .i64 0, .slice none 0 0] 31 := by rw [hW1]; exact Blk.new W _ _
  have hs1 : W1.heap.size = W.heap.size + 1 := by rw [hW1]; simp
  have hlab : ∀ f ∈ L, ∀ s ∈ f.steps, I64 s.label := fun f hf s hs => ((hok f hf).steps s hs).nums.2.2.2.2.2.2
  have HRC := Lib.hid (rightc_any L cb v W1 (hm1.cellOf hcb (fun f => f)) (hv.mods hm1 (fun _ _ f => f)) (hFo.mods hm1) (hOp.mods hm1) hlab)
  have H1 := Lib.hid (And.intro hm1 (And.intro hE1 hs1))
  have HCB := Lib.hid hcb
  have HI0 := Lib.hid (And.intro hi (And.intro hi0 hl))
  obtain ⟨va, vc, rfl, hvc1, hvc2, -⟩ := hv.form
  have HV := Lib.hid hv
  have HX := Lib.hid hx
  have HF := Lib.hid (And.intro hf hf2)
  have HOK := Lib.hid hok
  obtain ⟨vn, hvn⟩ : ∃ vn, vn = L.length := ⟨_, rfl⟩
  have hvn2 : Hid (vn = L.length) := Lib.hid hvn
  rw [← hvn] at hcb hvc1
  obtain ⟨c, hc⟩ : ∃ c, c = codeB L := ⟨_, rfl⟩
  rw [← hc] at HRC
  have HC := Lib.hid hc
  clear hm1 hE1 hs1 hi hi0 hl hv hx hok hlab hFo hOp hvn hc
  go_enter_defers Tryz.func9, Tryz.ntmps9
  go_upto_region 1 with (fail)
  rw [← hW1]
  clear hW1
  go_wp2_with fail
  go_at_call 10
  refine HRC.out.mono ?_
  rintro e U ⟨rfl, hmU⟩
  have HE := Lib.hid (H1.out.2.1.mods hmU (fun f => f))
  have HUW : Hid (Mods None W U) := Lib.hid (H1.out.1.trans hmU)
  have HUS : Hid (W.heap.size + 1 ≤ U.heap.size) := Lib.hid (by have h1 := H1.out.2.2; have h2 := hmU.size; omega)
  have HV1 := Lib.hid (HV.out.mods HUW.out (fun _ _ f => f))
  have hcb := HUW.out.cellOf hcb (fun f => f)
  clear hmU
  cases c with
  | false =>
    have hx := HX.out
    unfold runC at hx
    rw [← HC.out, if_neg (by simp)] at hx
    obtain rfl := (Option.some.inj hx).symm
    have e0 := HE.out.cell (i := 0) rfl
    have e1 := HE.out.cell (i := 1) rfl
    have e2 := HE.out.cell (i := 2) rfl
    have f0 := HE.out.free 0
    have f1 := HE.out.free 1
    have f2 := HE.out.free 2
    clear hx
    go_wp2_with fail
    clear e0 e1 e2 f0 f1 f2
    have hB := (((HE.out.set 0 (.int .i64 9)).set 1 (.int .i64 0)).set 2 (.slice none 0 0))
    have hm := ((mods_put U W.heap.size 0 (.int .i64 9)).trans (mods_put _ _ 1 (.int .i64 0))).trans (mods_put _ _ 2 (.slice none 0 0))
    have hr := results_cell_row (P := Tryz.prog) Tryz.results9 #[Value.pointer (some ⟨cb, 0, none⟩), iv, Value.int IntKind.i64 fuel, undef, undef, undef, Value.pointer (some ⟨W.heap.size, 0, none⟩), undef, undef, undef, Value.pointer (some ⟨cb, 0, none⟩), Value.bool false, Value.bool true, Value.agg #[Value.int IntKind.i64 9, Value.int IntKind.i64 0, Value.slice none 0 0], undef, undef, undef, undef, undef, undef, undef, undef, undef, undef, undef, undef, undef, undef, undef, undef, undef, undef, undef, undef, undef, undef, undef, undef, undef, undef, undef, undef, undef] _ W.heap.size _ _ _ _ rfl hB Tryz.underlying31 rfl (by kernel_rfl)
    have HRES := Lib.hid hr
    have HMM : Hid (Mods None W (((U.setCell ⟨W.heap.size, 0, none⟩ (.int .i64 9)).setCell ⟨W.heap.size, 1, none⟩ (.int .i64 0)).setCell ⟨W.heap.size, 2, none⟩ (.slice none 0 0))) := Lib.hid (HUW.out.trans' hm (fun k hk hlt => by omega))
    clear hr hB hm
    unfold bodyPostD
    simp only
    unfold Leaves
    exact ⟨_, HRES.out, _, rfl, ⟨none, 0, rfl, ⟨_, _, _, rfl, rfl, Nat.le_refl _, Nat.zero_le _, fun i x hx => by simp at hx⟩, Nat.zero_le _, fun _ => rfl⟩, HMM.out⟩
  | true =>
    have hx := HX.out
    unfold runC at hx
    rw [← HC.out, if_pos rfl] at hx
    have HX := Lib.hid hx
    obtain ⟨hA, hM, hn⟩ := code_parts HC.out.symm
    have HL : Hid (GoodM L ∧ ApartM L ∧ (∃ fn, fmOf L [109, 97, 105, 110] = some fn) ∧ L.length ≤ 12) := Lib.hid ⟨⟨HC.out.symm, HOK.out⟩, hA, hM, hn⟩
    obtain ⟨W3, hW3⟩ : ∃ W3, W3 = (U.alloc (.map #[] 0)).alloc (.cells #[] 2) := ⟨_, rfl⟩
    have HC3 : W3.ownsRow (U.heap.size + 1) 2 1 (.slice (some ⟨U.heap.size + 1, 0, none⟩) 0 0) 0 [] := by
      rw [hW3]
      have := own_C (U.alloc (.map #[] 0))
      simpa using this
    have hm3 : Mods None U W3 := by rw [hW3]; exact ((Mods.refl _ _).alloc _).alloc _
    have hs3 : W3.heap.size = U.heap.size + 2 := by rw [hW3]; simp
    have HE3 : Blk W3 W.heap.size [.int .i64 0, .int .i64 0, .slice none 0 0] 31 := HE.out.mods hm3 (fun f => f)
    have HMP3 : NameMap W3 U.heap.size 0 zeroFm [] := by
      rw [hW3]
      exact (NameMap.new U zeroFm).mods ((Mods.refl None _).alloc (.cells #[] 2)) (fun f => f)
    have HW3 := Lib.hid (And.intro HC3 (And.intro hm3 (And.intro hs3 (And.intro HE3 HMP3))))
    have HI := Lib.hid (And.intro (HI0.out.1.mods (HUW.out.trans hm3) (fun _ _ f => f)) HI0.out.2)
    have HCBL : Hid (cb < W.heap.size) := Lib.hid (World.block_lt_of_cell? W _ HCB.out)
    have HCB1 : Hid (∀ w, Mods (fun k => (Value.slice (some ⟨U.heap.size + 1, 0, none⟩) 0 0).ownBlock = some k) W3 w → w.cell? ⟨cb, 0, none⟩ = some (.slice va vn vc)) := Lib.hid (fun w hm => hm.cellOf (hm3.cellOf hcb (fun f => f)) (fun hk => by have h1 := HCBL.out; have h2 := HUS.out; simp only [Value.ownBlock, Option.some.injEq] at hk; omega))
    clear HC3 hm3 hs3 HE3 HMP3 hA hM hn hx hcb
    go_upto_region 4 with (at_builtin; rw [← hW3]; refine wpList_copy rfl (.tmp 15) (.tmp 16) rfl (U.heap.size + 1) (.slice (some ⟨U.heap.size + 1, 0, none⟩) 0 0) iv rfl HW3.out.1 (by have := HW3.out.2.2.1; omega) None given rfl HI.out.1 HI.out.2.1 HI.out.2.2 ?_; rintro v' w1 hown hm1 ⟨oa, oc, rfl⟩ hloc; have hcb1 := HCB1.out w1 hm1; have H1 := Lib.hid (And.intro hown (And.intro hm1 hloc)); clear hown hm1 hloc)
    clear hW3
    obtain ⟨b, hb⟩ : ∃ b, b = w1.heap.size := ⟨_, rfl⟩
    obtain ⟨W5, hW5⟩ : ∃ W5, W5 = ((w1.alloc (.cells #[.map (some (U.heap.size)), .slice oa given.length oc, .int .i64 (max fuel 0), .int .i64 0, .slice none 0 0] 62)).alloc (.cells #[.pointer (some ⟨w1.heap.size, 0, none⟩)] 59)) := ⟨_, rfl⟩
    have hm15 : Mods None w1 W5 := by rw [hW5]; exact ((Mods.refl _ _).alloc _).alloc _
    have hs5 : W5.heap.size = b + 2 := by rw [hW5, hb]; simp
    have HB5 : Blk W5 b [.map (some (U.heap.size)), .slice oa given.length oc, .int .i64 (max fuel 0), .int .i64 0, .slice none 0 0] 62 := by
      rw [hW5, hb]
      exact (Blk.new w1 _ _).alloc _
    have HQ7 : Blk W5 (b + 1) [.pointer (some ⟨b, 0, none⟩)] 59 := by
      rw [hW5, hb]
      have := Blk.new (w1.alloc (.cells #[.map (some (U.heap.size)), .slice oa given.length oc, .int .i64 (max fuel 0), .int .i64 0, .slice none 0 0] 62)) #[.pointer (some ⟨w1.heap.size, 0, none⟩)] 59
      simpa using this
    rw [show (if fuel < 0 then (0 : Int) else fuel) = max fuel 0 by split <;> omega]
    rw [← hW5, ← hb]
    have hcb5 : W5.cell? ⟨cb, 0, none⟩ = some (.slice va vn vc) := hm15.cellOf hcb1 (fun f => f)
    have hb0 : U.heap.size + 2 ≤ b := by have h1 := H1.out.2.1.size; have h2 := HW3.out.2.2.1; omega
    have hUW := HUW.out.size
    have hm5 : Mods None W W5 := by
      have h1 := (HUW.out.trans HW3.out.2.1).trans' H1.out.2.1 (fun k hk hlt => by simp only [Value.ownBlock, Option.some.injEq] at hk; omega)
      exact h1.trans hm15
    have hS1 : ∀ k, (fun k => (Value.slice (some ⟨U.heap.size + 1, 0, none⟩) 0 0).ownBlock = some k) k → k = U.heap.size + 1 := fun k hk => by simp only [Value.ownBlock, Option.some.injEq] at hk; omega
    have hE5 : Blk W5 W.heap.size [.int .i64 0, .int .i64 0, .slice none 0 0] 31 := (HW3.out.2.2.2.1.mods H1.out.2.1 (fun hk => by have := hS1 _ hk; omega)).mods hm15 (fun f => f)
    have hN5 : NameMap W5 (U.heap.size) 0 zeroFm [] := (HW3.out.2.2.2.2.mods H1.out.2.1 (fun hk => by have := hS1 _ hk; omega)).mods hm15 (fun f => f)
    have hO5 := hm15.ownsRow H1.out.1 (fun k _ f => f)
    have hown : ∀ k, (Value.slice oa given.length oc).ownBlock = some k → U.heap.size + 1 ≤ k ∧ k < b := fun k hk => by
      have h2 := H1.out.1.lt k hk
      omega
    have H5 := Lib.hid (And.intro hm5 (And.intro hE5 (And.intro hO5 (And.intro hown (And.intro HB5 (And.intro HQ7 (And.intro hs5 hb0)))))))
    have HN5 := Lib.hid hN5
    have HM5 : Hid (Mods (· = U.heap.size) W5 W5) := Lib.hid (Mods.refl _ _)
    have HFV : Hid (∀ f x, fmOf (L.take 0) f = some x → FmV W (fun k => ¬ k < W.heap.size) x (getL zeroFm [] f)) := Lib.hid (fun f x h => by simp [fmOf] at h)
    have hb1 : U.heap.size + 2 ≤ b := hb0
    clear hW5 hb hm15 hs5 HB5 HQ7 hb0 hm5 hS1 hE5 hN5 hO5 hown H1
    go_wp2_with fail
    clear hcb5
    go_loopw [9, 27] (fun _ jv wr => ∃ (i : Nat) (F : List (List UInt8 × Value)), i ≤ vn ∧ jv = .int .i64 i ∧ Hid (Mods (· = U.heap.size) W5 wr) ∧ Hid (NameMap wr (U.heap.size) i zeroFm F) ∧ Hid (∀ f x, fmOf (L.take i) f = some x → FmV W (fun k => ¬ k < W.heap.size) x (getL zeroFm F f))) (fun _ jv _ => (vn - intOf jv).toNat)
    case atStart => exact ⟨0, [], Nat.zero_le _, rfl, HM5, HN5, HFV⟩
    case round =>
      clear HM5 HN5 HFV
      obtain ⟨i, F, hi, rfl, HM, HN, HFV⟩ := hrel
      have hmW : Hid (Mods None W wr) := Lib.hid (H5.out.1.trans' HM.out (fun k hk hlt => by omega))
      have HB := Lib.hid (H5.out.2.2.2.2.1.mods HM.out (by omega))
      have HQ := Lib.hid (H5.out.2.2.2.2.2.1.mods HM.out (by omega))
      have q7 := HQ.out.cell (i := 0) rfl
      by_cases hlt : i < vn
      · have hil : i < L.length := by have := hvn2.out; omega
        obtain ⟨g, o, ta, tc, sa, sc, rfl, k0, k1, k2, k3, k4, k5⟩ := HV.out.get hil
        have hT : ∀ k, k < W.heap.size → (fun k => ¬ k < W.heap.size) k → None k := fun k h1 h2 => (h2 h1).elim
        have hfv : FmV W (fun k => ¬ k < W.heap.size) L[i] (.agg #[str L[i].name, .int .i64 L[i].params, .slice ta L[i].types.length tc, .slice sa L[i].steps.length sc]) := ⟨ta, tc, sa, sc, rfl, k4.mods (Mods.refl _ _) hT, k5.mods (Mods.refl _ _) hT⟩
        have k0 := hmW.out.cellOf k0 (fun f => f)
        have k1 := hmW.out.cellOf k1 (fun f => f)
        have k2 := hmW.out.cellOf k2 (fun f => f)
        have k3 := hmW.out.cellOf k3 (fun f => f)
        have hnm := (HL.out.1.ok L[i] (List.getElem_mem hil)).name
        have hi6 : i < 1000000 := by have := HL.out.2.2.2; omega
        obtain ⟨W6, hW6⟩ : ∃ W6, W6 = wr.alloc (.cells #[str L[i].name, .int .i64 L[i].params, .slice ta L[i].types.length tc, .slice sa L[i].steps.length sc] 55) := ⟨_, rfl⟩
        have hm6 : Mods None wr W6 := by rw [hW6]; exact (Mods.refl _ _).alloc _
        have HB6 : Blk W6 wr.heap.size [str L[i].name, .int .i64 L[i].params, .slice ta L[i].types.length tc, .slice sa L[i].steps.length sc] 55 := by rw [hW6]; exact Blk.new wr _ _
        have f0 := HB6.cell (i := 0) rfl
        have f1 := HB6.cell (i := 1) rfl
        have f2 := HB6.cell (i := 2) rfl
        have f3 := HB6.cell (i := 3) rfl
        have q76 := hm6.cellOf q7 (fun f => f)
        have b06 := (HB.out.mods hm6 (fun f => f)).cell (i := 0) rfl
        obtain ⟨w7, hu, hn7, hm7⟩ := (HN.out.mods (hm6.drew) (fun f => f)).put (t := 60) Tryz.underlying60 L[i].name hnm (.agg #[str L[i].name, .int .i64 L[i].params, .slice ta L[i].types.length tc, .slice sa L[i].steps.length sc]) (by unfold maxLen; omega)
        have HM7 : Hid (Mods (· = U.heap.size) W5 w7) := Lib.hid ((HM.out.trans ((hm6.drew).mono fun _ _ f => f.elim)).trans hm7)
        have HN7 := Lib.hid hn7
        have HFV7 : Hid (∀ f x, fmOf (L.take (i + 1)) f = some x → FmV W (fun k => ¬ k < W.heap.size) x (getL zeroFm (putL F L[i].name (.agg #[str L[i].name, .int .i64 L[i].params, .slice ta L[i].types.length tc, .slice sa L[i].steps.length sc])) f)) := Lib.hid (by
          intro f x hx
          rw [getL_put]
          rw [List.take_succ_eq_append_getElem hil] at hx
          unfold fmOf at hx
          rw [List.find?_append] at hx
          cases hy : fmOf (L.take i) f with
          | some y =>
            have hy2 := hy
            unfold fmOf at hy2
            rw [hy2] at hx
            simp only [Option.some_or, Option.some.injEq] at hx
            subst hx
            have hym : y ∈ L.take i := List.mem_of_find?_eq_some hy2
            have hyn : y.name = f := by have := List.find?_some hy2; simpa using this
            obtain ⟨j, hj, hjy⟩ := List.getElem_of_mem hym
            rw [List.getElem_take] at hjy
            have hji : j < i := by rw [List.length_take] at hj; omega
            have hne := List.pairwise_iff_getElem.1 HL.out.2.1 j i (by omega) hil hji
            rw [hjy, hyn] at hne
            rw [if_neg hne]
            exact HFV.out f y hy
          | none =>
            have hy2 := hy
            unfold fmOf at hy2
            rw [hy2] at hx
            simp only [Option.none_or, List.find?_cons, List.find?_nil] at hx
            by_cases hn : L[i].name = f
            · rw [if_pos hn.symm]
              have hb : (L[i].name == f) = true := by simpa using hn
              rw [hb] at hx
              obtain rfl := Option.some.inj hx
              exact hfv
            · have hb : (L[i].name == f) = false := by simpa using hn
              rw [hb] at hx
              cases hx)
        have hpi : (i : Int) < (vn : Int) := by omega
        clear k4 k5 hfv hn7 hm7 hm6 HB6 hT
        unfold str at k0 f0 hu hW6
        go_upto_region 7 with (fail)
        rw [← hW6]
        clear hW6
        go_region
        go_wp2_with fail
        exact ⟨⟨i + 1, _, by omega, by go_num, HM7, HN7, HFV7⟩, by simp [intOf]; omega⟩
      · obtain rfl : i = vn := by omega
        have hpi : ¬ (i : Int) < (i : Int) := by omega
        have hmf : ∀ (fn : Go.Fn) (first cap : Array Value) (w : World), (Instr.makeFunc fn first cap).run Tryz.prog w = .ok (.func fn first cap) w := fun _ _ _ _ => rfl
        have hown5 := H5.out.2.2.2.1
        have hUW := HUW.out.size
        have hb1 := H5.out.2.2.2.2.2.2.2
        have hwr5 := HM.out.size
        have hs5 := H5.out.2.2.2.2.2.2.1
        have hfm : ((fuel.toNat : Nat) : Int) = max fuel 0 := Int.toNat_eq_max fuel
        have hRR : RAt wr b (U.heap.size) L (fun k => k < W.heap.size ∨ k = U.heap.size ∨ (Value.slice oa given.length oc).ownBlock = some k) (· = b) [] ⟨given, fuel.toNat, 0, [], []⟩ := by
          refine ⟨⟨_, .slice none 0 0, ?_, in_of_row (HM.out.ownsRow H5.out.2.2.1 (fun k hk e => by have := hown5 k hk; omega)) (fun k hk hnp => hnp (Or.inr (Or.inr hk))), World.ownsRow_nil _ _ _ _, fun k hk => by cases hk⟩, rfl, ⟨Or.inr (Or.inl rfl), _, F, HN.out, fun g y hy => ?_⟩, rfl, fun j l hl => by simp at hl, fun g n h => by simp at h, List.Pairwise.nil, fun k hk => by rw [hk]; omega, fun k hk hp => ?_, fun k hp => ?_, by simp, by simp, ?_⟩
          · have := HB.out
            rw [← hfm] at this
            exact this
          · refine (HFV.out g y (by rw [hvn2.out, List.take_length]; exact hy)).mods (hmW.out.mono fun _ _ f => f.elim) (fun k hk hnp hlt2 => hnp (Or.inl hlt2))
          · rcases hp with hp | hp | hp
            · omega
            · omega
            · have := hown5 k hp
              omega
          · rcases hp with hp | hp | hp
            · omega
            · omega
            · have := hown5 k hp
              omega
          · have := HF.out
            simp only
            omega
        have HEW := Lib.hid (H5.out.2.1.mods HM.out (by have := HUS.out; omega))
        have hx := HX.out
        obtain ⟨z, hz⟩ : ∃ z, z = callM L f ⟨given, fuel.toNat, 0, [], []⟩ [109, 97, 105, 110] [] := ⟨_, rfl⟩
        rw [runM_eq, ← hz] at hx
        rcases z with _ | ⟨y, t⟩
        · cases hx
        have hc := mcall_good HL.out.1 f [109, 97, 105, 110] [] b (U.heap.size) 0 _ _ [] _ wr (.slice none 0 0) (y, t) hRR (Vals.none_ _ _ _ _ _) (by decide) (by obtain ⟨fn, h1⟩ := HL.out.2.2.1; exact ⟨fn, h1, Nat.zero_le _⟩) hz.symm
        have hx2 : endOf (y, t) = x := Option.some.inj hx
        have hends := callM_ends hz.symm
        have HX2 := Lib.hid hx2
        have HC := Lib.hid hc
        have HBN := Lib.hid (And.intro hb1 (And.intro hwr5 hs5))
        clear hx hx2 hc hz hRR hown5 hb1 hwr5 hs5 hfm
        unfold str at HC
        go_wp2_with fail
        go_at_call 23
        refine HC.out.mono ?_
        rcases hends with ⟨n, hn⟩ | ⟨wy, hw⟩
        · subst hn
          rintro e w5 ⟨M5, A5, rfl, k1, k2, k3⟩
          have hwr5 := HBN.out.2.1
          have hs5 := HBN.out.2.2
          have hb1 := HBN.out.1
          have hus := HUS.out
          have hE5 := keep_blk HEW.out k2 (fun e => by omega) (fun f => f)
          have hQ5 := keep_blk HQ.out k2 (fun e => by omega) (fun f => f)
          obtain ⟨iv5, ov5, hb5, -, ho5, hk5⟩ := k1.blk
          obtain ⟨oa5, oc5, rfl⟩ := row_form ho5
          have HK := Lib.hid (And.intro hE5 (And.intro hQ5 (And.intro hb5 (And.intro ho5 (And.intro hk5 (And.intro k2 k1.few))))))
          have c0 := hE5.1.cell (i := 0) rfl
          have c1 := hE5.1.cell (i := 1) rfl
          have c2 := hE5.1.cell (i := 2) rfl
          have f0 := hE5.1.free 0
          have f1 := hE5.1.free 1
          have f2 := hE5.1.free 2
          clear hE5 hQ5 hb5 ho5 hk5 k1 k2 k3 HC
          go_wp2
          clear c0 c1 c2 f0 f1 f2
          have hm6 : Mods (· = W.heap.size) w5 (((w5.setCell ⟨W.heap.size, 0, none⟩ (.int .i64 1)).setCell ⟨W.heap.size, 1, none⟩ (.int .i64 n)).setCell ⟨W.heap.size, 2, none⟩ (.slice none 0 0)) := ((mods_put _ _ _ _).trans (mods_put _ _ _ _)).trans (mods_put _ _ _ _)
          have hB6 := (((HK.out.1.1.set 0 (.int .i64 1)).set 1 (.int .i64 n)).set 2 (.slice none 0 0))
          refine mrun_done (q7 := b + 1) (b := b) rfl hB6 ((HK.out.2.1.1.mods hm6 (by omega)).cell (i := 0) rfl) ((HK.out.2.2.1.mods hm6 (by omega)).cell (i := 4) rfl) ?_
          intro w' hB' hm'
          have hmm : Mods (· = W.heap.size) w5 w' := hm6.trans hm'
          have hx2 := HX2.out
          subst hx2
          have hne : ∀ k, (Value.slice oa5 t.out.length oc5).ownBlock = some k → k ≠ W.heap.size := fun k hk e => HK.out.1.2 (e ▸ (HK.out.2.2.2.2.1 k hk).1)
          refine ⟨_, rfl, ⟨oa5, oc5, rfl, in_of_row (hmm.ownsRow HK.out.2.2.2.1 hne) (fun _ _ f => f), HK.out.2.2.2.2.2.2, own_none HK.out.2.2.2.1⟩, ?_⟩
          have h1 : Mods (fun k => k = b) W w5 := (hmW.out.mono fun _ _ f => f.elim).trans (HK.out.2.2.2.2.2.1.mods.mono fun k _ hk => hk.elim (fun f => f.elim) id)
          exact (h1.trans' hmm (fun k hk hlt => by omega)).mono (fun k hk e => by omega)
        · subst hw
          rintro e w5 ⟨⟨older, rfl⟩, M5, A5, k1, k2, k3⟩
          have hwr5 := HBN.out.2.1
          have hs5 := HBN.out.2.2
          have hb1 := HBN.out.1
          have hus := HUS.out
          have hE5 := keep_blk HEW.out k2 (fun e => by omega) (fun f => f)
          have hQ5 := keep_blk HQ.out k2 (fun e => by omega) (fun f => f)
          obtain ⟨iv5, ov5, hb5, -, ho5, hk5⟩ := k1.blk
          obtain ⟨oa5, oc5, rfl⟩ := row_form ho5
          have HK := Lib.hid (And.intro hE5 (And.intro hQ5 (And.intro hb5 (And.intro ho5 (And.intro hk5 (And.intro k2 k1.few))))))
          clear hE5 hQ5 hb5 ho5 hk5 k1 k2 k3 HC
          go_wp2
          refine mrun_stop older (q7 := b + 1) (b := b) rfl HK.out.1.1 (HK.out.2.1.1.cell (i := 0) rfl) (HK.out.2.2.1.cell (i := 4) rfl) (by omega) (by omega) ?_
          intro w' hB' hmm
          have hx2 := HX2.out
          subst hx2
          have hne : ∀ k, (Value.slice oa5 t.out.length oc5).ownBlock = some k → k ≠ W.heap.size := fun k hk e => HK.out.1.2 (e ▸ (HK.out.2.2.2.2.1 k hk).1)
          refine ⟨_, rfl, ⟨oa5, oc5, rfl, in_of_row (hmm.ownsRow HK.out.2.2.2.1 hne) (fun _ _ f => f), HK.out.2.2.2.2.2.2, own_none HK.out.2.2.2.1⟩, ?_⟩
          have h1 : Mods (fun k => k = b) W w5 := (hmW.out.mono fun _ _ f => f.elim).trans (HK.out.2.2.2.2.2.1.mods.mono fun k _ hk => hk.elim (fun f => f.elim) id)
          exact (h1.trans' hmm (fun k hk hlt => by omega)).mono (fun k hk e => by omega)
end Go.Proofs.YtnicpmoanjddbaaGreatDoor.MidP
