/- A number. Conditions: that the error of a number that is too great lies. -/
import Derived.Test.YtinbahmpifokaaaDoorTreeRow
import Derived.Test.YtinbahmpifokaaaDoorTreeNum
import Derived.Test.YtinbahmpifokaaaDoorShelf
import Derived.Lib.AtoiErrMem
namespace Go.Proofs.YtinbahmpifokaaaDoor.TreeP
open Go.RowKit Go.Proofs.YtinbahmpifokaaaDoor.Wo
set_option linter.unusedVariables false
set_option linter.unusedSimpArgs false
set_option maxRecDepth 100000 in
set_option maxHeartbeats 1600000 in
theorem first_num {f : Nat} {b : Nat} {S : Nat → Prop} {deep : Nat} {ts : List Tok} {W : World} {x : Except (Int × Int) (Ex × List Tok)} (h : Rd W b S ts) (hx : firstF (f + 1) deep ts = some x) (hn : headKind ts = 2) :
    Calls Tryd.prog 59 #[.pointer (some ⟨b, 0, none⟩), .int .i64 deep] W (Got (· = b) W b (ExIs S) (some x)) := by
  simp only [firstF] at hx
  rw [if_pos hn] at hx
  have HR := Lib.hid h
  obtain ⟨⟨g, o, c, hp⟩, hL, hg8, hb, _⟩ := h
  obtain ⟨t, rr, hts⟩ := ends_cons hp.ends
  rw [hts] at hp
  obtain ⟨tk, tt, ta⟩ := t
  have e1 : headKind ts = tk := by rw [hts]; rfl
  have e2 : headText ts = tt := by rw [hts]; rfl
  have e3 : headAt ts = ta := by rw [hts]; rfl
  have e4 : ts.tail = rr := by rw [hts]; rfl
  rw [e1] at hn
  subst hn
  rw [e2, e3, e4] at hx
  have hl := hp.cl
  have hk := hp.ck
  have ht := hp.ct
  have ha := hp.ca
  simp only at hk ht ha
  have hcap := hp.cap
  have hmax := hp.max
  simp only [List.length_cons] at hcap
  have hnum := hp.nums _ List.mem_cons_self rfl
  have hsm := hp.small _ List.mem_cons_self
  simp only at hnum hsm
  have HB0 := Lib.hid (Blk.new W #[.int .i64 2, .string ⟨tt.toArray⟩, .int .i64 ta] 47)
  have hMA := Lib.hid ((Mods.refl None W).alloc (.cells #[.int .i64 2, .string ⟨tt.toArray⟩, .int .i64 ta] 47))
  have HP := Lib.hid hp
  have hmore := hp.more (by simp)
  have hi := int_digits hnum.1 hnum.2
  by_cases h63 : numP tt < 9223372036854775808
  · rw [if_pos h63] at hx hi
    obtain rfl := (Option.some.inj hx).symm
    have hN : 0 ≤ (numP tt : Int) ∧ (numP tt : Int) < 9223372036854775808 := by omega
    obtain ⟨n, hn⟩ : ∃ n : Int, n = (numP tt : Int) := ⟨_, rfl⟩
    rw [← hn] at hi hN ⊢
    have HC := Lib.hid (fun (w : World) => Tryd.strconv_ParseInt_10_at64_ok ⟨tt.toArray⟩ (by simp only [ByteArray.size, List.size_toArray]; omega) n (by simpa using hi) w)
    clear hp hL hg8 hb hts e1 e2 e3 e4 hx hi h63 hnum hsm hn
    go_enter Tryd.func59, Tryd.ntmps59
    go_wp2_with (go_at_call 65; refine (HC.out _).mono ?_; rintro e w1 ⟨rfl, hw⟩; have hM1 : Mods None (W.alloc (.cells #[.int .i64 2, .string ⟨tt.toArray⟩, .int .i64 ta] 47)) w1 := (by rcases hw with rfl | ⟨t, rfl⟩; exact Mods.refl _ _; exact Mods.of_below (Lib.bytesWorld_below _ _ _)); have HMA := Lib.hid (hMA.out.trans hM1); clear hw; have B := HB0.out.mods hM1 (fun f => f); have c1 := B.cell (i := 2) rfl; have hl2 := HMA.out.cellOf hl (fun f => f); have hf2 := (HP.out.blk.mods HMA.out (fun f => f)).free 0)
    go_ret
    have HQ := (HP.out.mods HMA.out (fun f => f) (fun f => f)).tail (by simp)
    have hS : Mods (· = b) w1 (w1.setCell ⟨b, 0, none⟩ (.slice (some ⟨g, o + 3, none⟩) rr.length (c - 1))) := Mods.setCell (S := (· = b)) (p := ⟨b, 0, none⟩) (Mods.refl _ _) (fun _ => rfl) _
    have HR2 := (HR.out.quiet HMA.out).next (⟨_, _, _, HQ⟩ : Par _ b rr) hS
    refine ⟨_, rfl, ?_, HR2.par.mods ((Mods.refl _ _).alloc _), ((HMA.out.mono fun _ _ f => f.elim).trans hS).alloc _⟩
    simp only [ExIs, ExAt]
    have hsz : (w1.setCell ⟨b, 0, none⟩ (.slice (some ⟨g, o + 3, none⟩) rr.length (c - 1))).heap.size = w1.heap.size := by simp [World.setCell]
    have hnode := Node.new HR2.old #[.int .i64 1, .int .i64 ta, .int .i64 n, .string ⟨#[]⟩, .string ⟨#[]⟩, .pointer none, .pointer none, .slice none 0 0]
    rw [hsz] at hnode
    exact hnode
  · rw [if_neg h63] at hx hi
    have HX := Lib.hid hx
    obtain ⟨hgl, te, pe, hge⟩ := hg8
    have HC := Lib.hid (fun (w : World) (hv : w.cell? ⟨8, 0, none⟩ = some (.iface te pe)) => Tryd.strconv_ParseInt_10_at64_range ⟨tt.toArray⟩ (by simp only [ByteArray.size, List.size_toArray]; omega) (by simpa using hi) _ w hv (Or.inr ⟨te, pe, rfl⟩))
    have HG := Lib.hid hge
    clear hp hL hb hts e1 e2 e3 e4 hx hi h63 hnum hsm hgl hge
    go_enter Tryd.func59, Tryd.ntmps59
    go_wp2_with (go_at_call 65; refine (HC.out _ (hMA.out.cellOf HG.out (fun f => f))).mono ?_; rintro e w1 ⟨N, rfl, hN1, hN2, hbel⟩; have hM1 : Mods None (W.alloc (.cells #[.int .i64 2, .string ⟨tt.toArray⟩, .int .i64 ta] 47)) w1 := Mods.of_below hbel; have HMA := Lib.hid (hMA.out.trans hM1); clear hN1 hN2 hbel)
    go_at_call 13
    refine fail_of (Lib.hid (HMA.out.mono (T := (· = b)) fun _ _ f => f.elim)) (Lib.hid (HR.out.quiet HMA.out)) HX ?_
    rintro n a rfl g w HB HM1
    go_wp2
    exact ⟨rfl, g, rfl, HB.out, HM1.out⟩
end Go.Proofs.YtinbahmpifokaaaDoor.TreeP
