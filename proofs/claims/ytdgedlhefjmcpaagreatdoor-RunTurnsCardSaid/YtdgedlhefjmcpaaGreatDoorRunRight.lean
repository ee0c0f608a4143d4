/- What the laws of the runner ask first: the fact; whether a text is a program of which nothing is found. Conditions: the variables lie as the program lays them. -/
import Derived.Test.YtdgedlhefjmcpaaGreatDoorRunRn
import Derived.Test.YtdgedlhefjmcpaaGreatDoorRunStrip
import Derived.Test.YtdgedlhefjmcpaaGreatDoorRunEq
import Derived.Test.YtdgedlhefjmcpaaGreatDoorChkOut
namespace Go.Proofs.YtdgedlhefjmcpaaGreatDoor.TreeP
open Go.RowKit Go.Proofs.YtdgedlhefjmcpaaGreatDoor.Wo
set_option linter.unusedVariables false
set_option linter.unusedSimpArgs false
/-- A program that runs. -/
theorem run_good {s : List UInt8} {L : List Fn} (hr : ReadTo s (.ok L)) (hc : checkOk L) (f : Nat) (given : List Int) (fuel : Int) (x : Int × Int × List Int) (hx : runR L f given fuel.toNat = some x) (v iv : Value) (W : World) (hv : FsAt W None v L) (hi : InAt W None iv given) (hi0 : ∀ n c, iv = .slice none n c → c = 0) (hl : given.length ≤ 1000000) (hf : fuel ≤ 4000000000000000000) (hf2 : -9223372036854775808 ≤ fuel) :
    Calls Tryz.prog 20 #[v, iv, .int .i64 fuel] W fun e w => ∃ u, e = .returned u ∧ EndV w x u ∧ Mods None W w := by
  have hp := read_prog hr
  refine run_any (good_of hp hc) hc.1 (main_of hc) (fun x hx => name_short (hp.fit x hx).1) (by have := hp.few; omega) f given fuel x hx v iv W hv hi hi0 hl hf hf2
/-- Whether a text is a program of which nothing is found. -/
def RightTo (s : List UInt8) (W : World) (e : Ending) (w : World) : Prop :=
  ((∃ L a c, e = .returned (.tuple #[.slice a L.length c, .bool true]) ∧ ReadTo s (.ok L) ∧ checkOk L ∧ FsAt w None (.slice a L.length c) L ∧ Prg w L (.slice a L.length c)) ∨ (∃ a n c, e = .returned (.tuple #[.slice a n c, .bool false]))) ∧ Mods None W w
theorem check_yes {L : List Fn} (hc : checkOk L) (v : Value) (W : World) (hL : FsAt W None v L) : Calls Tryz.prog 12 #[v] W fun e w => e = .returned .nilIface ∧ Mods None W w :=
  (check_out L v W hL).mono fun e w h => ⟨h.1.elim (fun k => k.2) (fun k => absurd hc k.1), h.2⟩
theorem check_no {L : List Fn} (hc : ¬ checkOk L) (v : Value) (W : World) (hL : FsAt W None v L) : Calls Tryz.prog 12 #[v] W fun e w => (∃ t p, e = .returned (.iface t p)) ∧ Mods None W w :=
  (check_out L v W hL).mono fun e w h => ⟨h.1.elim (fun k => absurd k.1 hc) (fun k => k.2), h.2⟩
set_option maxRecDepth 100000 in
set_option maxHeartbeats 1000000 in
theorem right_any (s : List UInt8) (W : World) (hL : All W) (hs : s.length ≤ 9223372036854775807) :
    Calls Tryz.prog 19 #[str s] W (RightTo s W) := by
  by_cases h12 : 1200 < s.length
  · unfold str
    have h12i : (1200 : Int) < (s.length : Int) := by omega
    go_enter Tryz.func19, Tryz.ntmps19
    go_wp2_with fail
    go_ret2
    exact ⟨Or.inr ⟨_, _, _, rfl⟩, Mods.refl _ _⟩
  · have h12i : ¬ (1200 : Int) < (s.length : Int) := by omega
    obtain ⟨x, hx⟩ := read_any s
    cases x with
    | error p =>
      have HP := Lib.hid (parse_read W hL (by omega) hx)
      obtain ⟨pn, pa⟩ := p
      clear hL hx
      unfold str at *
      go_enter Tryz.func19, Tryz.ntmps19
      go_wp2_with fail
      go_at_call 11
      refine HP.out.mono ?_
      rintro e w1 ⟨g, rfl, hb, hm1⟩
      have HM1 := Lib.hid hm1
      clear hb hm1
      go_wp2_with fail
      go_quiet (fail)
      go_wp2
      go_ret2
      exact ⟨Or.inr ⟨_, _, _, rfl⟩, HM1.out.drewN _⟩
    | ok L =>
      have HP := Lib.hid (parse_good W hL (by omega) hx)
      have HX := Lib.hid hx
      clear hL hx
      unfold str at *
      go_enter Tryz.func19, Tryz.ntmps19
      go_wp2_with fail
      go_at_call 11
      refine HP.out.mono ?_
      rintro e w1 ⟨a, c, rfl, hv, hm1⟩
      have HM1 := Lib.hid hm1
      have HV := Lib.hid hv
      have HF := Lib.hid hv.fs
      clear hv hm1
      by_cases hck : checkOk L
      · have HC := Lib.hid (fun (w : World) (hm : Mods None w1 w) => check_yes hck _ w (HF.out.mods hm (fun _ _ f => f)))
        have HCK := Lib.hid hck
        clear hck
        go_wp2_with fail
        go_region_with (first | (go_at_call 12; refine (HC.out _ (Mods.refl _ _).drew).mono ?_; rintro e w2 ⟨rfl, hm2⟩; have HM2 := Lib.hid hm2; clear hm2))
        go_wp2
        go_ret2
        have hm : Mods None w1 w2 := (Mods.refl None w1).drew.trans HM2.out
        exact ⟨Or.inl ⟨L, _, _, rfl, HX.out, HCK.out, HF.out.mods hm (fun _ _ f => f), HV.out.next hm⟩, HM1.out.trans hm⟩
      · have HC := Lib.hid (fun (w : World) (hm : Mods None w1 w) => check_no hck _ w (HF.out.mods hm (fun _ _ f => f)))
        clear hck
        go_wp2_with fail
        go_region_with (first | (go_at_call 12; refine (HC.out _ (Mods.refl _ _).drew).mono ?_; rintro e w2 ⟨⟨pt, pp, rfl⟩, hm2⟩; have HM2 := Lib.hid hm2; clear hm2))
        go_wp2
        go_ret2
        exact ⟨Or.inr ⟨_, _, _, rfl⟩, HM1.out.trans ((Mods.refl None w1).drew.trans HM2.out)⟩
theorem in_new (W : World) (l : List Int) (h : l.length ≤ 1000000) : InAt (W.alloc (.cells (l.map (Value.int .i64)).toArray 2)) None (.slice (some ⟨W.heap.size, 0, none⟩) l.length l.length) l := by
  refine ⟨_, _, _, rfl, rfl, Nat.le_refl _, by unfold maxLen; omega, fun i x hx => ⟨W.heap.size, 0, rfl, fun f => f, ?_⟩⟩
  have := (Blk.new W (l.map (Value.int .i64)).toArray 2).cell (i := i) (v := .int .i64 x) (by simp [hx])
  simpa using this
def goS : List UInt8 := List.append [102, 110, 32, 109, 97, 105, 110, 40, 41, 32, 123, 32, 118, 97, 114, 32, 105, 32, 61, 32, 105, 110, 112, 117, 116, 40, 41, 59, 32, 119, 104, 105, 108, 101, 32, 40, 105, 32, 62, 32, 48] [41, 32, 123, 32, 112, 114, 105, 110, 116, 32, 105, 59, 32, 105, 32, 61, 32, 105, 32, 45, 32, 49, 59, 32, 125, 32, 114, 101, 116, 117, 114, 110, 32, 55, 32, 47, 32, 105, 59, 32, 125]
theorem go_read : ReadTo goS (.ok (progOf goS)) := reads_of (by kernel_rfl)
theorem go_ok : checkR (progOf goS) = .ok true := by kernel_rfl
theorem go_runs : runR (progOf goS) 60 [2] 100 = some (2, 0, [2, 1]) := by kernel_rfl
set_option maxRecDepth 100000 in
set_option maxHeartbeats 1000000 in
theorem goes_yes (W : World) (hL : All W) : Calls Tryz.prog 18 #[] W fun e w => e = .returned (.bool true) ∧ Mods None W w := by
  have HP := Lib.hid (parse_good W hL (by decide) go_read)
  have hck : checkOk (progOf goS) := by
    rw [← checkOk_iff]
    have : checkR (progOf goS) = bindK (twiceK [] (progOf goS)) (fun _ => bindK (fnsK (progOf goS) (progOf goS)) fun _ => .ok ((progOf goS).any mainB)) := rfl
    rw [← this]
    exact go_ok
  have HR := Lib.hid (fun (v iv : Value) (w : World) (hv : FsAt w None v (progOf goS)) (hi : InAt w None iv [2]) (h0 : ∀ n c, iv = .slice none n c → c = 0) => run_good go_read hck 60 [2] 100 _ go_runs v iv w hv hi h0 (by decide) (by decide) (by decide))
  generalize hn1 : (progOf goS).length = n1 at HP
  clear hn1 hL hck
  unfold str goS at HP
  go_enter Tryz.func18, Tryz.ntmps18
  go_wp2_with fail
  go_at_call 11
  refine HP.out.mono ?_
  rintro e w1 ⟨a, c, rfl, hv, hm1⟩
  have HM1 := Lib.hid hm1
  have HF := Lib.hid hv.fs
  clear hv hm1 HP
  go_wp2_with fail
  go_at_call 20
  refine (HR.out _ _ _ (HF.out.mods ((Mods.refl None w1).alloc _) (fun _ _ f => f)) (in_new w1 [2] (by decide)) (fun n c h => by cases h)).mono ?_
  rintro e w2 ⟨u, rfl, ⟨oa, oc, rfl, hin, -, -⟩, hm2⟩
  have HM2 := Lib.hid (HM1.out.trans (((Mods.refl None w1).alloc _).trans hm2))
  have HIN := Lib.hid hin
  clear hm2 hin HR HF
  simp only [List.length_cons, List.length_nil, Nat.zero_add, Nat.reduceAdd] at HIN ⊢
  go_wp2_with fail
  go_at_call 24
  have hn2 := in_new (w2.alloc (.cells #[.int .i64 2, .int .i64 0, .slice oa 2 oc] 50)) [2, 1] (by decide)
  rw [show (w2.alloc (.cells #[.int .i64 2, .int .i64 0, .slice oa 2 oc] 50)).heap.size = w2.heap.size + 1 by simp] at hn2
  refine (equal_any _ _ [2, 1] [2, 1] _ (HIN.out.mods (((Mods.refl None w2).alloc _).alloc _) (fun _ _ f => f)) hn2).mono ?_
  rintro e w3 ⟨rfl, hm3⟩
  have HM3 := Lib.hid (HM2.out.trans ((((Mods.refl None w2).alloc _).alloc _).trans hm3))
  clear hm3 hn2
  go_wp2_with fail
  go_ret
  exact ⟨rfl, HM3.out⟩
end Go.Proofs.YtdgedlhefjmcpaaGreatDoor.TreeP
