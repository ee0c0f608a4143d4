/- The document's reader: a statement that is being read. No conditions. -/
import Derived.Test.YtdgedlhefjmcpaaGreatDoorRefFirst
import Derived.Deep.Cut
namespace Go.Proofs.YtdgedlhefjmcpaaGreatDoor.TreeP.R
open Go.RowKit Go.Proofs.YtdgedlhefjmcpaaGreatDoor.Wo Go.Proofs.YtdgedlhefjmcpaaGreatDoor.TreeP
set_option linter.unusedVariables false
set_option linter.unusedSimpArgs false
/-- A statement is being read: its own cells, at sb, are cs. -/
structure St7 (W0 w : World) (b sb : Nat) (S : Nat → Prop) (cs : List Value) : Prop where
  base : Base w b S
  own : Blk w sb cs 143
  hasS : S sb
  lt : b < sb
  mods : Mods (Two b sb) W0 w
structure NG (W0 w : World) (b sb : Nat) (S : Nat → Prop) (ts : List Tok) (cs : List Value) : Prop where
  st : St7 W0 w b sb S cs
  par : Par w b ts
structure NB (W0 w : World) (b sb : Nat) (S : Nat → Prop) (n a : Int) (cs : List Value) : Prop where
  st : St7 W0 w b sb S cs
  bad : Bad w b n a
theorem St7.next {W0 w w' : World} {b sb : Nat} {S : Nat → Prop} {cs : List Value} (h : St7 W0 w b sb S cs) (hm : Mods (· = b) w w') : St7 W0 w' b sb S cs :=
  ⟨h.base.far hm (fun k hk => Nat.le_of_eq hk.symm), h.own.mods hm (fun e => Nat.ne_of_gt h.lt e), h.hasS, h.lt, h.mods.trans (mods_one hm)⟩
theorem St7.put {W0 w : World} {b sb : Nat} {S : Nat → Prop} {cs : List Value} (h : St7 W0 w b sb S cs) (i : Nat) (v : Value) {ds : List Value} (he : cs.set i v = ds) : St7 W0 (w.setCell ⟨sb, i, none⟩ v) b sb S ds :=
  ⟨h.base.far (mods_put w sb i v) (fun k hk => hk ▸ Nat.le_of_lt h.lt), blk_put h.own i v he, h.hasS, h.lt, h.mods.trans (mods_two (mods_put w sb i v))⟩
theorem NG.rd {W0 w : World} {b sb : Nat} {S : Nat → Prop} {ts : List Tok} {cs : List Value} (h : NG W0 w b sb S ts cs) : Rd w b S ts := ⟨h.par, h.st.base⟩
theorem NB.rb {W0 w : World} {b sb : Nat} {S : Nat → Prop} {n a : Int} {cs : List Value} (h : NB W0 w b sb S n a cs) : Rb w b S n a := ⟨h.bad, h.st.base⟩
theorem NG.next {W0 w w' : World} {b sb : Nat} {S : Nat → Prop} {ts r : List Tok} {cs : List Value} (h : NG W0 w b sb S ts cs) (hp : Par w' b r) (hm : Mods (· = b) w w') : NG W0 w' b sb S r cs := ⟨h.st.next hm, hp⟩
theorem NG.fail {W0 w w' : World} {b sb : Nat} {S : Nat → Prop} {ts : List Tok} {n a : Int} {cs : List Value} (h : NG W0 w b sb S ts cs) (hp : Bad w' b n a) (hm : Mods (· = b) w w') : NB W0 w' b sb S n a cs := ⟨h.st.next hm, hp⟩
theorem NB.next {W0 w w' : World} {b sb : Nat} {S : Nat → Prop} {n a : Int} {cs : List Value} (h : NB W0 w b sb S n a cs) (hm : Mods None w w') : NB W0 w' b sb S n a cs := ⟨h.st.next (mods_b hm), h.bad.mods hm⟩
theorem NG.put {W0 w : World} {b sb : Nat} {S : Nat → Prop} {ts : List Tok} {cs : List Value} (h : NG W0 w b sb S ts cs) (i : Nat) (v : Value) {ds : List Value} (he : cs.set i v = ds) : NG W0 (w.setCell ⟨sb, i, none⟩ v) b sb S ts ds :=
  ⟨h.st.put i v he, h.par.far (mods_put w sb i v) (fun k hk => hk ▸ h.st.lt)⟩
theorem NB.put {W0 w : World} {b sb : Nat} {S : Nat → Prop} {n a : Int} {cs : List Value} (h : NB W0 w b sb S n a cs) (i : Nat) (v : Value) {ds : List Value} (he : cs.set i v = ds) : NB W0 (w.setCell ⟨sb, i, none⟩ v) b sb S n a ds :=
  ⟨h.st.put i v he, h.bad.far (mods_put w sb i v) (fun k hk => hk ▸ h.st.lt)⟩
theorem St7.putMods {W0 w : World} {b sb : Nat} {S : Nat → Prop} {cs : List Value} (h : St7 W0 w b sb S cs) (i : Nat) (v : Value) : Mods S w (w.setCell ⟨sb, i, none⟩ v) :=
  (mods_put w sb i v).mono fun k _ hk => hk ▸ h.hasS
theorem St7.bMods {W0 w w' : World} {b sb : Nat} {S : Nat → Prop} {cs : List Value} (h : St7 W0 w b sb S cs) (hm : Mods (· = b) w w') : Mods S w w' :=
  hm.mono fun k _ hk => hk ▸ h.base.has
/-- The cells of a statement, whatever they are. -/
def Seven (cs : List Value) : Prop := ∃ code a name p q oa on oc ob om od, cs = [.int .i64 code, .int .i64 a, .string name, .pointer p, .pointer q, .slice oa on oc, .slice ob om od]
/-- What begins with a name, var ahead of it or not. -/
def NamedTo (W : World) (b sb : Nat) (S : Nat → Prop) (x : Except (Int × Int) (St × List Tok)) (e : Ending) (w : World) : Prop :=
  e = .returned (.tuple #[]) ∧ match x with
  | .ok (s, r) => ∃ cs, NG W w b sb S r cs ∧ StAt w S s cs
  | .error (n, a) => ∃ cs, NB W w b sb S n a cs ∧ Seven cs
end Go.Proofs.YtdgedlhefjmcpaaGreatDoor.TreeP.R
