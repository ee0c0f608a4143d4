/- How a walk through the document's reader goes on behind a call of one of its parts. No conditions. -/
import Derived.Test.YtdgedlhefjmcpaaGreatDoorRefMem
import Derived.Deep.RegionWith
namespace Go.Proofs.YtdgedlhefjmcpaaGreatDoor.TreeP.R
open Go.RowKit Go.Proofs.YtdgedlhefjmcpaaGreatDoor.Wo Go.Proofs.YtdgedlhefjmcpaaGreatDoor.TreeP
set_option linter.unusedVariables false
set_option linter.unusedSimpArgs false
theorem mods_b {b : Nat} {W w : World} (h : Mods None W w) : Mods (· = b) W w := h.mono fun _ _ f => f.elim
/-- What a part of the reader that is called says, and how one goes on behind it. -/
theorem bind_of {α β : Type} {b : Nat} {S : Nat → Prop} {W0 W : World} {ts : List Tok} {p : PR α} {k : α → List Tok → PR β} {x : Except (Int × Int) (β × List Tok)} {F : FuncId} {args : Array Value} {Sh : Value → Prop} {V : α → Value → World → Prop} {Q : Ending → World → Prop}
    (hM : Hid (Mods (· = b) W0 W)) (hR : Hid (Rd W b S ts)) (hx : Hid (andThen p k = some x))
    (hc : ∀ y, p = some y → Calls Tryz.prog F args W (Got (· = b) W b S Sh V (some y)))
    (herr : ∀ n a, x = .error (n, a) → ∀ xv w, Sh xv → Hid (Rb w b S n a) → Hid (Mods (· = b) W w) → Hid (Mods (· = b) W0 w) → Q (.returned xv) w)
    (hok : ∀ v r, Hid (p = some (.ok (v, r))) → Hid (k v r = some x) → ∀ xv w, V v xv w → Hid (Rd w b S r) → Hid (Mods (· = b) W w) → Hid (Mods (· = b) W0 w) → Q (.returned xv) w) :
    Calls Tryz.prog F args W Q := by
  have hx := hx.out
  cases hp : p with
  | none => rw [hp] at hx; cases hx
  | some y =>
    refine (hc y hp).mono ?_
    intro e w h
    rw [hp] at hx
    cases y with
    | error q =>
      obtain ⟨n, a⟩ := q
      obtain ⟨xv, rfl, hs, hb, hm⟩ := h
      exact herr n a (Option.some.inj hx).symm xv w hs (Lib.hid hb) (Lib.hid hm) (Lib.hid (hM.out.trans hm))
    | ok q =>
      obtain ⟨v, r⟩ := q
      obtain ⟨xv, rfl, hv, hpar, hm⟩ := h
      exact hok v r (Lib.hid hp) (Lib.hid hx) xv w hv (Lib.hid (hR.out.next hpar hm)) (Lib.hid hm) (Lib.hid (hM.out.trans hm))
/-- The same, where nothing comes behind it. -/
theorem tail_of {β : Type} {b : Nat} {S : Nat → Prop} {W0 W : World} {ts : List Tok} {p : PR β} {x : Except (Int × Int) (β × List Tok)} {F : FuncId} {args : Array Value} {Sh : Value → Prop} {V : β → Value → World → Prop} {Q : Ending → World → Prop}
    (hM : Hid (Mods (· = b) W0 W)) (hR : Hid (Rd W b S ts)) (hx : Hid (p = some x))
    (hc : ∀ y, p = some y → Calls Tryz.prog F args W (Got (· = b) W b S Sh V (some y)))
    (herr : ∀ n a, x = .error (n, a) → ∀ xv w, Sh xv → Hid (Rb w b S n a) → Hid (Mods (· = b) W w) → Hid (Mods (· = b) W0 w) → Q (.returned xv) w)
    (hok : ∀ v r, x = .ok (v, r) → ∀ xv w, V v xv w → Hid (Rd w b S r) → Hid (Mods (· = b) W w) → Hid (Mods (· = b) W0 w) → Q (.returned xv) w) :
    Calls Tryz.prog F args W Q := by
  have hx := hx.out
  refine (hc x hx).mono ?_
  intro e w h
  cases x with
  | error q =>
    obtain ⟨n, a⟩ := q
    obtain ⟨xv, rfl, hs, hb, hm⟩ := h
    exact herr n a rfl xv w hs (Lib.hid hb) (Lib.hid hm) (Lib.hid (hM.out.trans hm))
  | ok q =>
    obtain ⟨v, r⟩ := q
    obtain ⟨xv, rfl, hv, hpar, hm⟩ := h
    exact hok v r rfl xv w hv (Lib.hid (hR.out.next hpar hm)) (Lib.hid hm) (Lib.hid (hM.out.trans hm))
theorem must_any (b : Nat) (S : Nat → Prop) (s : List UInt8) (ts : List Tok) (W : World) (h : Rd W b S ts) :
    Calls Tryz.prog 44 #[.pointer (some ⟨b, 0, none⟩), str s] W (Got (· = b) W b S (fun x => x = .tuple #[]) (fun _ x _ => x = .tuple #[]) (must s ts)) := by
  unfold must
  cases hs : seeB s ts
  · rw [if_neg (by simp)]
    exact (must_no b S s ts W h hs).mono fun e w ⟨h1, h2, h3⟩ => ⟨_, h1, rfl, h2, h3⟩
  · rw [if_pos rfl]
    exact (must_yes b S s ts W h hs).mono fun e w ⟨h1, h2, h3⟩ => ⟨_, h1, rfl, h2, h3⟩
theorem must_of {β : Type} {b : Nat} {S : Nat → Prop} {W0 W : World} {s : List UInt8} {ts : List Tok} {k : Unit → List Tok → PR β} {x : Except (Int × Int) (β × List Tok)} {Q : Ending → World → Prop}
    (hM : Hid (Mods (· = b) W0 W)) (hR : Hid (Rd W b S ts)) (hx : Hid (andThen (must s ts) k = some x))
    (herr : ∀ n a, x = .error (n, a) → ∀ w, Hid (Rb w b S n a) → Hid (Mods (· = b) W w) → Hid (Mods (· = b) W0 w) → Q (.returned (.tuple #[])) w)
    (hok : ∀ r, Hid (seeB s ts = true ∧ r = ts.tail) → Hid (k () r = some x) → ∀ w, Hid (Rd w b S r) → Hid (Mods (· = b) W w) → Hid (Mods (· = b) W0 w) → Q (.returned (.tuple #[])) w) :
    Calls Tryz.prog 44 #[.pointer (some ⟨b, 0, none⟩), str s] W Q := by
  refine bind_of hM hR hx (fun y hy => hy ▸ must_any b S s ts W hR.out) ?_ ?_
  · rintro n a he xv w rfl h1 h2 h3
    exact herr n a he w h1 h2 h3
  · rintro v r hp hk xv w rfl h1 h2 h3
    have := must_ok hp.out
    exact hok r (Lib.hid ⟨this.2, this.1⟩) hk w h1 h2 h3
theorem name_of {β : Type} {b : Nat} {S : Nat → Prop} {W0 W : World} {ts : List Tok} {k : List UInt8 → List Tok → PR β} {x : Except (Int × Int) (β × List Tok)} {Q : Ending → World → Prop}
    (hM : Hid (Mods (· = b) W0 W)) (hR : Hid (Rd W b S ts)) (hx : Hid (andThen (nameP ts) k = some x))
    (herr : ∀ n a, x = .error (n, a) → ∀ (s : List UInt8) w, Hid (s.length ≤ 10000000) → Hid (Rb w b S n a) → Hid (Mods (· = b) W w) → Hid (Mods (· = b) W0 w) → Q (.returned (.string ⟨s.toArray⟩)) w)
    (hok : ∀ s r, Hid (nameP ts = some (.ok (s, r))) → Hid (k s r = some x) → ∀ w, Hid (Rd w b S r) → Hid (Mods (· = b) W w) → Hid (Mods (· = b) W0 w) → Q (.returned (.string ⟨s.toArray⟩)) w) :
    Calls Tryz.prog 45 #[.pointer (some ⟨b, 0, none⟩)] W Q := by
  refine bind_of hM hR hx (fun y hy => hy ▸ name_any b S ts W hR.out) ?_ ?_
  · rintro n a he xv w ⟨s, rfl, hs⟩ h1 h2 h3
    exact herr n a he s w (Lib.hid hs) h1 h2 h3
  · rintro v r hp hk xv w rfl h1 h2 h3
    exact hok v r hp hk w h1 h2 h3
theorem take_of {β : Type} {b : Nat} {S : Nat → Prop} {W0 W : World} {s : List UInt8} {ts : List Tok} {A B x : β} {Q : Ending → World → Prop}
    (hM : Hid (Mods (· = b) W0 W)) (hR : Hid (Rd W b S ts)) (hx : Hid ((if seeB s ts then A else B) = x))
    (hyes : Hid (seeB s ts = true) → Hid (A = x) → ∀ w, Hid (Rd w b S ts.tail) → Hid (Mods (· = b) W w) → Hid (Mods (· = b) W0 w) → Q (.returned (.bool true)) w)
    (hno : Hid (seeB s ts = false) → Hid (B = x) → ∀ w, Hid (Rd w b S ts) → Hid (Mods None W w) → Hid (Mods (· = b) W0 w) → Q (.returned (.bool false)) w) :
    Calls Tryz.prog 46 #[.pointer (some ⟨b, 0, none⟩), str s] W Q := by
  have hx := hx.out
  cases hs : seeB s ts
  · rw [hs, if_neg (by simp)] at hx
    refine (take_no b S s ts W hR.out hs).mono ?_
    rintro e w ⟨rfl, hm⟩
    exact hno (Lib.hid hs) (Lib.hid hx) w (Lib.hid (hR.out.quiet hm)) (Lib.hid hm) (Lib.hid (hM.out.trans (mods_b hm)))
  · rw [hs, if_pos rfl] at hx
    refine (take_yes b S s ts W hR.out hs).mono ?_
    rintro e w ⟨rfl, hp, hm⟩
    exact hyes (Lib.hid hs) (Lib.hid hx) w (Lib.hid (hR.out.next hp hm)) (Lib.hid hm) (Lib.hid (hM.out.trans hm))
theorem see_of {β : Type} {b : Nat} {S : Nat → Prop} {W0 W : World} {s : List UInt8} {ts : List Tok} {A B x : β} {Q : Ending → World → Prop}
    (hM : Hid (Mods (· = b) W0 W)) (hR : Hid (Rd W b S ts)) (hx : Hid ((if seeB s ts then A else B) = x))
    (hyes : Hid (seeB s ts = true) → Hid (A = x) → ∀ w, Hid (Rd w b S ts) → Hid (Mods None W w) → Hid (Mods (· = b) W0 w) → Q (.returned (.bool true)) w)
    (hno : Hid (seeB s ts = false) → Hid (B = x) → ∀ w, Hid (Rd w b S ts) → Hid (Mods None W w) → Hid (Mods (· = b) W0 w) → Q (.returned (.bool false)) w) :
    Calls Tryz.prog 78 #[.pointer (some ⟨b, 0, none⟩), str s] W Q := by
  have hx := hx.out
  refine (see_any b S s ts W hR.out).mono ?_
  rintro e w ⟨rfl, hd⟩
  have hm := mods_drewN hd
  cases hs : seeB s ts
  · rw [hs, if_neg (by simp)] at hx
    exact hno (Lib.hid hs) (Lib.hid hx) w (Lib.hid (hR.out.quiet hm)) (Lib.hid hm) (Lib.hid (hM.out.trans (mods_b hm)))
  · rw [hs, if_pos rfl] at hx
    exact hyes (Lib.hid hs) (Lib.hid hx) w (Lib.hid (hR.out.quiet hm)) (Lib.hid hm) (Lib.hid (hM.out.trans (mods_b hm)))
theorem fail_of {b : Nat} {S : Nat → Prop} {W0 W : World} {ts : List Tok} {β : Type} {n : Int} {x : Except (Int × Int) (β × List Tok)} {Q : Ending → World → Prop}
    (hM : Hid (Mods (· = b) W0 W)) (hR : Hid (Rd W b S ts)) (hx : Hid ((failP n ts : PR β) = some x)) (hn : n = 3 ∨ n = 4)
    (herr : ∀ n a, x = .error (n, a) → ∀ w, Hid (Rb w b S n a) → Hid (Mods (· = b) W w) → Hid (Mods (· = b) W0 w) → Q (.returned (.tuple #[])) w) :
    Calls Tryz.prog 43 #[.pointer (some ⟨b, 0, none⟩), .int .i64 n] W Q := by
  refine (fails_any b S n ts W hR.out hn).mono ?_
  rintro e w ⟨rfl, hb, hm⟩
  exact herr n (headAt ts) (Option.some.inj hx.out).symm w (Lib.hid hb) (Lib.hid hm) (Lib.hid (hM.out.trans hm))
theorem ok_of {b : Nat} {S : Nat → Prop} {W0 W : World} {ts : List Tok} {Q : Ending → World → Prop} (hM : Hid (Mods (· = b) W0 W)) (hR : Hid (Rd W b S ts))
    (h : ∀ w, Hid (Rd w b S ts) → Hid (Mods None W w) → Hid (Mods (· = b) W0 w) → Q (.returned (.bool true)) w) :
    Calls Tryz.prog 42 #[.pointer (some ⟨b, 0, none⟩)] W Q := by
  refine (ok_yes b ts W hR.out.par hR.out.base.fine).mono ?_
  rintro e w ⟨rfl, hd⟩
  have hm := mods_drewN hd
  exact h w (Lib.hid (hR.out.quiet hm)) (Lib.hid hm) (Lib.hid (hM.out.trans (mods_b hm)))
/-! Something is wrong already. -/
theorem okb_of {b : Nat} {S : Nat → Prop} {W0 W : World} {n a : Int} {Q : Ending → World → Prop} (hM : Hid (Mods (· = b) W0 W)) (hB : Hid (Rb W b S n a))
    (h : ∀ w, Hid (Rb w b S n a) → Hid (Mods None W w) → Hid (Mods (· = b) W0 w) → Q (.returned (.bool false)) w) :
    Calls Tryz.prog 42 #[.pointer (some ⟨b, 0, none⟩)] W Q := by
  refine (ok_no b n a W hB.out.bad hB.out.base.fine).mono ?_
  rintro e w ⟨rfl, hd⟩
  have hm := mods_drewN hd
  exact h w (Lib.hid (hB.out.quiet hm)) (Lib.hid hm) (Lib.hid (hM.out.trans (mods_b hm)))
theorem seeb_of {b : Nat} {S : Nat → Prop} {W0 W : World} {s : List UInt8} {n a : Int} {Q : Ending → World → Prop} (hM : Hid (Mods (· = b) W0 W)) (hB : Hid (Rb W b S n a))
    (h : ∀ w, Hid (Rb w b S n a) → Hid (Mods None W w) → Hid (Mods (· = b) W0 w) → Q (.returned (.bool false)) w) :
    Calls Tryz.prog 78 #[.pointer (some ⟨b, 0, none⟩), str s] W Q := by
  refine (see_bad b S s n a W hB.out).mono ?_
  rintro e w ⟨rfl, hd⟩
  have hm := mods_drewN hd
  exact h w (Lib.hid (hB.out.quiet hm)) (Lib.hid hm) (Lib.hid (hM.out.trans (mods_b hm)))
theorem takeb_of {b : Nat} {S : Nat → Prop} {W0 W : World} {s : List UInt8} {n a : Int} {Q : Ending → World → Prop} (hM : Hid (Mods (· = b) W0 W)) (hB : Hid (Rb W b S n a))
    (h : ∀ w, Hid (Rb w b S n a) → Hid (Mods None W w) → Hid (Mods (· = b) W0 w) → Q (.returned (.bool false)) w) :
    Calls Tryz.prog 46 #[.pointer (some ⟨b, 0, none⟩), str s] W Q := by
  refine (take_bad b S s n a W hB.out).mono ?_
  rintro e w ⟨rfl, hm⟩
  exact h w (Lib.hid (hB.out.quiet hm)) (Lib.hid hm) (Lib.hid (hM.out.trans (mods_b hm)))
theorem mustb_of {b : Nat} {S : Nat → Prop} {W0 W : World} {s : List UInt8} {n a : Int} {Q : Ending → World → Prop} (hM : Hid (Mods (· = b) W0 W)) (hB : Hid (Rb W b S n a))
    (h : ∀ w, Hid (Rb w b S n a) → Hid (Mods None W w) → Hid (Mods (· = b) W0 w) → Q (.returned (.tuple #[])) w) :
    Calls Tryz.prog 44 #[.pointer (some ⟨b, 0, none⟩), str s] W Q := by
  refine (must_bad b S s n a W hB.out).mono ?_
  rintro e w ⟨rfl, hm⟩
  exact h w (Lib.hid (hB.out.quiet hm)) (Lib.hid hm) (Lib.hid (hM.out.trans (mods_b hm)))
def IsPtr (x : Value) : Prop := ∃ p, x = .pointer p
theorem ExAt.by {W W' : World} {b : Nat} {S : Nat → Prop} {ts : List Tok} {e : Ex} {v : Value} (h : ExAt W S e v) (hR : Rd W b S ts) (hm : Mods (· = b) W W') : ExAt W' S e v :=
  h.mods (hm.mono fun k _ hk => by rw [hk]; exact hR.base.has)
/-- What parts of the reader say, with so many rounds. -/
def ExprC (f : Nat) : Prop := ∀ (b : Nat) (S : Nat → Prop) (level deep : Nat) (ts : List Tok) (W : World) (x : Except (Int × Int) (Ex × List Tok)), level ≤ 6 → deep ≤ 14 → Rd W b S ts → exprF f level deep ts = some x →
  Calls Tryz.prog 111 #[.pointer (some ⟨b, 0, none⟩), .int .i64 level, .int .i64 deep] W (Got (· = b) W b S IsPtr (ExIs S) (some x))
def UnaryC (f : Nat) : Prop := ∀ (b : Nat) (S : Nat → Prop) (deep : Nat) (ts : List Tok) (W : World) (x : Except (Int × Int) (Ex × List Tok)), deep ≤ 14 → Rd W b S ts → unaryF f deep ts = some x →
  Calls Tryz.prog 136 #[.pointer (some ⟨b, 0, none⟩), .int .i64 deep] W (Got (· = b) W b S IsPtr (ExIs S) (some x))
def FirstC (f : Nat) : Prop := ∀ (b : Nat) (S : Nat → Prop) (deep : Nat) (ts : List Tok) (W : World) (x : Except (Int × Int) (Ex × List Tok)), deep ≤ 13 → Rd W b S ts → firstF f deep ts = some x →
  Calls Tryz.prog 156 #[.pointer (some ⟨b, 0, none⟩), .int .i64 deep] W (Got (· = b) W b S IsPtr (ExIs S) (some x))
def AloneC (f : Nat) : Prop := ∀ (b : Nat) (S : Nat → Prop) (deep : Nat) (ts : List Tok) (W : World) (x : Except (Int × Int) (Ex × List Tok)), deep ≤ 13 → Rd W b S ts → aloneF f deep ts = some x →
  Calls Tryz.prog 110 #[.pointer (some ⟨b, 0, none⟩), .int .i64 deep] W (Got (· = b) W b S IsPtr (ExIs S) (some x))
def IsSl (x : Value) : Prop := ∃ a n c, x = .slice a n c
def ExsIs (S : Nat → Prop) (l : List Ex) (v : Value) (w : World) : Prop := ∃ vs, RowAt w S 141 1 v l.length vs ∧ ExsAt w S l vs
def ArgsC (f : Nat) : Prop := ∀ (b : Nat) (S : Nat → Prop) (deep : Nat) (ts : List Tok) (W : World) (x : Except (Int × Int) (List Ex × List Tok)), deep ≤ 13 → Rd W b S ts → argsF f deep ts = some x →
  Calls Tryz.prog 137 #[.pointer (some ⟨b, 0, none⟩), .int .i64 deep] W (Got (· = b) W b S IsSl (ExsIs S) (some x))
set_option maxRecDepth 100000 in
set_option maxHeartbeats 600000 in
theorem round_of (f : Nat) (ih : ExprC f) : AloneC (f + 1) := by
  intro b S deep ts W x hd h hx
  simp only [aloneF] at hx
  have HX := Lib.hid hx
  have HR := Lib.hid h
  have HM := Lib.hid (Mods.refl (· = b) W)
  have hds : Hid ((deep : Int) + 1 = ((deep + 1 : Nat) : Int)) := Lib.hid (by omega)
  have hd0 : 0 ≤ (deep : Int) ∧ (deep : Int) ≤ 13 := by omega
  have HD := Lib.hid hd
  clear hx h hd
  go_enter Tryz.func110, Tryz.ntmps110
  go_wp2_with fail
  go_at_call 44
  refine must_of (s := [40]) HM HR HX ?_ ?_
  · rintro n a rfl w HB - HM1
    go_wp2_with fail
    go_at_call 42
    refine okb_of HM1 HB ?_
    rintro w2 HB2 - HM2
    go_wp2
    go_ret
    exact ⟨_, rfl, ⟨_, rfl⟩, HB2.out, HM2.out⟩
  clear HX
  rintro r1 - HX w1 HR1 - HM1
  go_wp2_with fail
  go_at_call 42
  refine ok_of HM1 HR1 ?_
  rintro w2 HR2 - HM2
  go_wp2_with fail
  go_at_call 111
  rw [hds.out]
  refine bind_of HM2 HR2 HX (fun y hy => ih b S 0 (deep + 1) r1 w2 y (by omega) (by have := HD.out; omega) HR2.out hy) ?_ ?_
  · rintro n a rfl xv w ⟨p, rfl⟩ HB - HM3
    go_wp2_with fail
    go_at_call 44
    refine mustb_of (s := [41]) HM3 HB ?_
    rintro w4 HB4 - HM4
    go_wp2
    go_ret
    exact ⟨_, rfl, ⟨_, rfl⟩, HB4.out, HM4.out⟩
  clear HX
  rintro v r2 - HX xv w3 hv HR3 - HM3
  obtain ⟨gv, rfl⟩ := ExAt.ptr hv
  have HV := Lib.hid (show ExAt w3 S v _ from hv)
  clear hv
  go_wp2_with fail
  go_at_call 44
  refine must_of (s := [41]) HM3 HR3 HX ?_ ?_
  · rintro n a rfl w HB - HM4
    go_wp2
    go_ret
    exact ⟨_, rfl, ⟨_, rfl⟩, HB.out, HM4.out⟩
  clear HX
  rintro r3 - HX w4 HR4 hm HM4
  obtain rfl := (Option.some.inj HX.out).symm
  go_wp2
  go_ret
  exact ⟨_, rfl, ExAt.by HV.out HR3.out hm.out, HR4.out.par, HM4.out⟩
end Go.Proofs.YtdgedlhefjmcpaaGreatDoor.TreeP.R
