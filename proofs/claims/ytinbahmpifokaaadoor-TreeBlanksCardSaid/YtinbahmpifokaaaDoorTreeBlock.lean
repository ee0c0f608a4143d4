/- { STMT .. }. Conditions: what is read within is read so. -/
import Derived.Test.YtinbahmpifokaaaDoorTreeSt
import Derived.Test.YtinbahmpifokaaaDoorTreeStLen
import Derived.Test.YtinbahmpifokaaaDoorTreeExprs
namespace Go.Proofs.YtinbahmpifokaaaDoor.TreeP
open Go.RowKit Go.Proofs.YtinbahmpifokaaaDoor.Wo
set_option linter.unusedVariables false
set_option linter.unusedSimpArgs false
/-- The cells of a struct of seven that is laid anew. -/
theorem seven_new (W : World) (z0 z1 z2 z3 z4 z5 z6 : Value) (e : TypeId) : ∀ j u, [z0, z1, z2, z3, z4, z5, z6][j]? = some u → (W.alloc (.cells #[z0, z1, z2, z3, z4, z5, z6] e)).cell? ((⟨W.heap.size, 0, none⟩ : Addr).add j) = some u := by
  intro j u hj
  have h := (Blk.new W #[z0, z1, z2, z3, z4, z5, z6] e).cell (i := j) (v := u) hj
  cases j with
  | zero => exact h
  | succ j => simpa [Addr.add] using h
theorem seven_one (a b : Int) (s : ByteArray) (p q : Option Addr) (oa : Option Addr) (on oc : Nat) (ob : Option Addr) (om od : Nat) : ∀ u ∈ [Value.int .i64 a, .int .i64 b, .string s, .pointer p, .pointer q, .slice oa on oc, .slice ob om od], u.oneCell' = true := by
  intro u hu
  simp only [List.mem_cons, List.not_mem_nil, or_false] at hu
  rcases hu with rfl | rfl | rfl | rfl | rfl | rfl | rfl <;> rfl
/-- Where the loop stands. -/
def SeqAt (S : Nat → Prop) (b f deep : Nat) (W : World) (x : Except (Int × Int) (List St × List Tok)) (lv : Value) (wr : World) : Prop :=
  ∃ ff l r vs, ff ≤ f ∧ stmtsF ff deep l r = some x ∧ Grows wr W.heap.size S 80 7 lv l.length vs ∧ StsAt wr (Own S lv) l vs ∧ Rd wr b S r ∧ Mods (· = b) W wr ∧ l.length + r.length ≤ 10000000
set_option maxRecDepth 100000 in
set_option maxHeartbeats 1600000 in
theorem block_of (f : Nat) (hS : ∀ g, g ≤ f → StmtC g) : BlockC (f + 1) := by
  intro b S deep ts W x hd h hx
  simp only [blockF] at hx
  have HR := Lib.hid h
  have HM := Lib.hid (Mods.refl (· = b) W)
  have HN := Lib.hid h.par.short
  have HG := Lib.hid (fun (w : World) (hm : Mods (· = b) W w) => Grows.nil 80 7 h hm)
  have hd0 : 0 ≤ (deep : Int) ∧ (deep : Int) ≤ 13 := by omega
  obtain ⟨i0, hi, hz0, hz1, hz2⟩ := info_parts stmt_info
  have HI := Lib.hid (⟨hi, hz0, hz1, hz2⟩ : _ ∧ _ ∧ _ ∧ _)
  clear h hd hi hz0 hz1 hz2
  by_cases hdd : 12 < deep
  · rw [if_pos hdd] at hx
    have HX := Lib.hid hx
    have hg : 12 < (deep : Int) := by omega
    clear hx hdd
    go_enter Tryd.func24, Tryd.ntmps24
    go_wp2_with fail
    go_at_call 13
    refine fail_of HM HR HX ?_
    rintro n a rfl g w HB HM1
    go_wp2
    exact ⟨rfl, g, rfl, HB.out, HM1.out⟩
  rw [if_neg hdd] at hx
  have HD := Lib.hid hdd
  have hg : ¬ 12 < (deep : Int) := by omega
  have HX := Lib.hid hx
  clear hx hdd
  go_enter Tryd.func24, Tryd.ntmps24
  go_wp2_with fail
  go_at_call 21
  refine must_of (s := [123]) HM HR HX ?_ ?_
  · rintro n a rfl g w HB HM1
    go_wp2
    exact ⟨rfl, g, rfl, HB.out, HM1.out⟩
  clear HX
  rintro r1 HT HX w1 HR1 - HM1
  go_wp2_with fail
  go_loopw [5] (fun lv wr => SeqAt S b f deep W x lv wr) (fun _ wr => lenOf wr b)
  case atStart => exact ⟨f, [], r1, [], Nat.le_refl _, HX.out, HG.out _ HM1.out, by simp [StsAt], HR1.out, HM1.out, by rw [HT.out.2]; have := HN.out; simp; omega⟩
  case round =>
    clear HX HR1 HM1 HR HM HT HN HG
    obtain ⟨ff, l, r, vs, hff, hb, hg, hv, hR1, hmm, hn⟩ := hrel
    have HG1 := Lib.hid hg
    have HV1 := Lib.hid hv
    have HR1 := Lib.hid hR1
    have HM1 := Lib.hid hmm
    have HN1 := Lib.hid hn
    clear hg hv hR1 hmm hn
    cases ff with
    | zero => simp [stmtsF] at hb
    | succ f1 =>
      simp only [stmtsF] at hb
      have HB := Lib.hid hb
      clear hb
      go_wp2_with fail
      go_at_call 23
      refine take_of (s := [125]) HM1 HR1 HB ?_ ?_
      · clear HB
        rintro - HX w3 HR3 hm3 HM3
        obtain rfl := (Option.some.inj HX.out).symm
        obtain ⟨oa, on, oc, rfl⟩ := HG1.out.form
        go_wp2
        go_ret
        exact ⟨_, rfl, ⟨vs, (HG1.out.next HR1.out.has hm3.out).rowAt, StsAt.modsTo (hm3.out.mono fun k _ hk => Or.inl (hk ▸ HR1.out.has)) own_sub _ _ HV1.out⟩, HR3.out.par, HM3.out⟩
      · clear HB
        rintro - HX
        obtain ⟨oa, on, oc, rfl⟩ := HG1.out.form
        go_wp2_with fail
        go_at_call 37
        refine bind_of HM1 HR1 HX (fun z hz => hS f1 (by omega) b (Own S (.slice oa on oc)) deep r wr z (by have := HD.out; omega) (HG1.out.rd HR1.out) hz) ?_ ?_
        · rintro n a rfl g w HB HM1
          go_wp2
          exact ⟨rfl, g, rfl, HB.out, HM1.out⟩
        clear HX
        rintro y2 r2 HP HX xv w4 ⟨cs, rfl, hv4⟩ HR4 hm4 HM4
        obtain ⟨z0, z1, z2, z3, z4, pa, pn, pc, qa, qn, qc, rfl⟩ := hv4.shape
        have HV4 := Lib.hid hv4
        have HG4 := Lib.hid ((HG1.out.next HR1.out.has hm4.out).alloc (.cells #[.int .i64 z0, .int .i64 z1, .string z2, .pointer z3, .pointer z4, .slice pa pn pc, .slice qa qn qc] 80))
        clear hv4
        go_wp2_with (at_builtin; refine wpList_append_own_at _ rfl _ _ 50 rfl W.heap.size 80 i0 _ 7 96 Tryd.underlying50 HI.out.1 HI.out.2.1 HI.out.2.2.1 HI.out.2.2.2 rfl (by decide) _ l.length vs rfl HG4.out.row ⟨w4.heap.size, 0, none⟩ 1 1 [.int .i64 z0, .int .i64 z1, .string z2, .pointer z3, .pointer z4, .slice pa pn pc, .slice qa qn qc] rfl rfl (seven_new _ _ _ _ _ _ _ _ _) (seven_one _ _ _ _ _ _ _ _ _ _ _) (by have := HN1.out; unfold maxLen; omega) (by have := HN1.out; omega) HG4.out.base ?_; intro v' w5 hown hgrow hnil hloc; have HGR : Hid (Grew (w4.alloc (.cells #[.int .i64 z0, .int .i64 z1, .string z2, .pointer z3, .pointer z4, .slice pa pn pc, .slice qa qn qc] 80)) w5 (.slice oa on oc) v') := Lib.hid (grew_of hgrow hloc); have HOW := Lib.hid (HG4.out.grew HGR.out hown); clear hown hgrow hnil hloc; refine Hid.out ?_)
        refine Lib.hid ?_
        have hMA : ∀ (S : Nat → Prop) (o : Obj), Mods S w4 (w4.alloc o) := fun S o => (Mods.refl _ _).alloc _
        go_wp2_with fail
        refine ⟨⟨f1, l ++ [y2], r2, vs ++ [.int .i64 z0, .int .i64 z1, .string z2, .pointer z3, .pointer z4, .slice pa pn pc, .slice qa qn qc], by omega, HX.out, by simpa using HOW.out, ?_, HG4.out.rdGrew HGR.out (HR4.out.quiet (hMA _ _)), HG4.out.modsGrew HGR.out (HM4.out.alloc _), ?_⟩, ?_⟩
        · have hA : Mods (Own S (.slice oa on oc)) wr (w4.alloc (.cells #[.int .i64 z0, .int .i64 z1, .string z2, .pointer z3, .pointer z4, .slice pa pn pc, .slice qa qn qc] 80)) := (hm4.out.mono fun k _ hk => Or.inl (hk ▸ HR1.out.has)).trans (hMA _ _)
          exact StsAt.append (StsAt.modsTo HGR.out.own HGR.out.to _ _ (StsAt.modsTo hA (fun _ _ h => h) _ _ HV1.out)) (StAt.modsTo HGR.out.own HGR.out.to _ _ (StAt.modsTo (hMA _ _) (fun _ _ h => h) _ _ HV4.out))
        · have h1 := (slens f1).stmt HP.out
          have h2 := HN1.out
          simp only [List.length_append, List.length_cons, List.length_nil] at h2 ⊢
          omega
        · rw [(HG4.out.rdGrew HGR.out (HR4.out.quiet (hMA _ _))).par.len, HR1.out.par.len]
          exact (slens f1).stmt HP.out
end Go.Proofs.YtinbahmpifokaaaDoor.TreeP
