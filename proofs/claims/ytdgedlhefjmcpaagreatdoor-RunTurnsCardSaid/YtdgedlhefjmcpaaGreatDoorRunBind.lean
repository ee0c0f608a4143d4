/- How a walk through the runner goes on behind a call of one of its parts. Conditions: what it has lies. -/
import Derived.Test.YtdgedlhefjmcpaaGreatDoorRunMem
import Derived.Deep.Cut
namespace Go.Proofs.YtdgedlhefjmcpaaGreatDoor.TreeP
open Go.RowKit Go.Proofs.YtdgedlhefjmcpaaGreatDoor.Wo
set_option linter.unusedVariables false
set_option linter.unusedSimpArgs false
/-- A frame, as it lies. -/
def FrAt (W : World) (P M : Nat → Prop) (A : List (Nat × Nat)) (fm n : Nat) (F : Fr) : Prop :=
  ∃ F', NameMap W fm n zeroVal F' ∧ ¬ M fm ∧ ¬ P fm ∧ ∀ s, VAt A (Fr.get F s) (getL zeroVal F' s)
theorem FrAt.ext {W W' : World} {P M M' : Nat → Prop} {A A' : List (Nat × Nat)} {fm n : Nat} {F : Fr} (h : FrAt W P M A fm n F) (hE : Ext None M M' W W') (hA : A <+: A') : FrAt W' P M' A' fm n F := by
  obtain ⟨F', h1, h2, h4, h3⟩ := h
  exact ⟨F', h1.mods hE.mods (fun k => k.elim (fun f => f.elim) h2), fun hm => h2 (hE.back fm h1.lt hm), h4, fun s => (h3 s).more hA⟩
theorem ExAt.ext {W W' : World} {P T M M' : Nat → Prop} {e : Ex} {v : Value} (h : ExAt W (fun k => ¬ P k) e v) (hE : Ext T M M' W W') (hT : ∀ k, T k ∨ M k → ¬ P k) : ExAt W' (fun k => ¬ P k) e v := ExAt.modsTo (hE.mods.mono fun k _ hk => hT k hk) (fun _ _ k => k) e v h
theorem keep_blk {W w : World} {T M M' : Nat → Prop} {g : Nat} {cs : List Value} {t : TypeId} (h : Blk W g cs t) (hE : Ext T M M' W w) (hn : ¬ M g) (hT : ¬ T g) : Blk w g cs t ∧ ¬ M' g := ⟨h.mods hE.mods (fun k => k.elim hT hn), fun hm => hn (hE.back g h.lt hm)⟩
mutual
/-- Names are short; calls have as many parts as they must. -/
def GoodE (L : List Fn) : Ex → Prop
  | .num _ _ => True
  | .var _ s => s.length ≤ 10000000
  | .bin _ _ l r => GoodE L l ∧ GoodE L r
  | .un _ _ x => GoodE L x
  | .call _ f args => f.length ≤ 10000000 ∧ args.length ≤ 1000000 ∧ (∃ g, fnOf L f = some g ∧ args.length = g.params.length) ∧ GoodEs L args
  | .new _ x => GoodE L x
  | .len _ x => GoodE L x
  | .item _ x i => GoodE L x ∧ GoodE L i
  | .input _ => True
def GoodEs (L : List Fn) : List Ex → Prop
  | [] => True
  | e :: r => GoodE L e ∧ GoodEs L r
end
theorem rbind_of {α β : Type} {W0 W : World} {b mb : Nat} {L : List Fn} {P T M0 M : Nat → Prop} {A0 A : List (Nat × Nat)} {x : RM α} {f : α → RS → RM β} {r : Except Sig β × RS} {F : FuncId} {args : Array Value} {ok : α → (Nat → Prop) → List (Nat × Nat) → Ending → World → Prop} {Q : Ending → World → Prop}
    (hE : Hid (Ext T M0 M W0 W)) (hA : Hid (A0 <+: A)) (hx : Hid (bindR x f = some r)) (hc : ∀ y, x = some y → Calls Tryz.prog F args W (Ran W b mb L P T M A ok y))
    (herr : ∀ g s', r = (.error g, s') → ∀ (older : Old) w, Hid (∃ M' A', RAt w b mb L P M' A' s' ∧ Ext T M0 M' W0 w ∧ A0 <+: A') → Q (.panicked ({ v := sigV g, recovered := false } :: older.1)) w)
    (hok : ∀ a s', Hid (x = some (.ok a, s')) → Hid (f a s' = some r) → ∀ e w M' A', ok a M' A' e w → Hid (RAt w b mb L P M' A' s') → Hid (Ext T M M' W w) → Hid (Ext T M0 M' W0 w) → Hid (A <+: A') → Hid (A0 <+: A') → Q e w) :
    Calls Tryz.prog F args W Q := by
  have hx := hx.out
  cases hp : x with
  | none => rw [hp] at hx; cases hx
  | some y =>
    refine (hc y hp).mono ?_
    intro e w h
    rw [hp] at hx
    obtain ⟨y, s'⟩ := y
    cases y with
    | error g =>
      obtain ⟨⟨older, rfl⟩, M', A', h1, h2, h3⟩ := h
      exact herr g s' (Option.some.inj hx).symm older w (Lib.hid ⟨M', A', h1, hE.out.trans h2, hA.out.trans h3⟩)
    | ok a =>
      obtain ⟨M', A', h0, h1, h2, h3⟩ := h
      exact hok a s' (Lib.hid hp) (Lib.hid hx) e w M' A' h0 (Lib.hid h1) (Lib.hid h2) (Lib.hid (hE.out.trans h2)) (Lib.hid h3) (Lib.hid (hA.out.trans h3))
def EvC (L : List Fn) (f : Nat) : Prop := ∀ (e : Ex) (b mb : Nat) (P T M : Nat → Prop) (A : List (Nat × Nat)) (s : RS) (F : Fr) (fm n : Nat) (W : World) (v : Value) (r : Except Sig V × RS), RAt W b mb L P M A s → FrAt W P M A fm n F → GoodE L e → ExAt W (fun k => ¬ P k) e v → evE L f s F e = some r →
  Calls Tryz.prog 139 #[.pointer (some ⟨b, 0, none⟩), .map (some fm), v] W (Ran W b mb L P T M A retV r)
/-- The number of what an expression comes to. -/
def evN (L : List Fn) (f : Nat) (s : RS) (F : Fr) (e : Ex) : RM Int := bindR (evE L f s F e) fun v s => okR v.n s
theorem bindN {β : Type} (L : List Fn) (f : Nat) (s : RS) (F : Fr) (e : Ex) (k : Int → RS → RM β) : bindR (evN L f s F e) k = bindR (evE L f s F e) fun v s => k v.n s := by
  unfold evN
  cases evE L f s F e with
  | none => rfl
  | some y =>
    obtain ⟨y, t⟩ := y
    cases y <;> rfl
theorem VAt.num {A : List (Nat × Nat)} {x : V} {v : Value} (h : VAt A x v) : ∃ av, v = .agg #[.int .i64 x.n, av] := by
  rcases h with ⟨_, rfl⟩ | ⟨i, g, n, _, _, rfl⟩
  · exact ⟨_, rfl⟩
  · exact ⟨_, rfl⟩
theorem fld_n (k : Int) (av : Value) (w : World) : Sem.run Tryz.prog (Instr.field 158 (.agg #[.int .i64 k, av]) 0) w = Result.ok (.int .i64 k) w := by kernel_rfl
theorem ran_same {α : Type} {W : World} {b mb : Nat} {L : List Fn} {P T M : Nat → Prop} {A : List (Nat × Nat)} {ok : α → (Nat → Prop) → List (Nat × Nat) → Ending → World → Prop} {x : α} {s : RS} {e : Ending} {w : World} (h0 : ok x M A e w) (h1 : RAt w b mb L P M A s) (h2 : Ext T M M W w) : Ran W b mb L P T M A ok (.ok x, s) e w := ⟨M, A, h0, h1, h2, List.prefix_refl _⟩
set_option maxRecDepth 100000 in
set_option maxHeartbeats 400000 in
/-- The closure that tells an expression's number. -/
theorem num_any {L : List Fn} {f : Nat} (ih : EvC L f) (e : Ex) (b mb q3 q4 : Nat) (P T M : Nat → Prop) (A : List (Nat × Nat)) (s : RS) (F : Fr) (fm n : Nat) (W : World) (v : Value) (r : Except Sig Int × RS) (h : RAt W b mb L P M A s) (hF : FrAt W P M A fm n F) (hg : GoodE L e) (he : ExAt W (fun k => ¬ P k) e v) (hr : evN L f s F e = some r)
    (h3 : W.cell? ⟨q3, 0, none⟩ = some (.pointer (some ⟨b, 0, none⟩))) (h4 : W.cell? ⟨q4, 0, none⟩ = some (.map (some fm))) :
    Calls Tryz.prog 157 #[v, .pointer (some ⟨q3, 0, none⟩), .pointer (some ⟨q4, 0, none⟩)] W (Ran W b mb L P T M A retN r) := by
  have HX : Hid (bindR (evE L f s F e) (fun v s => okR v.n s) = some r) := Lib.hid hr
  have HC := Lib.hid (fun y hy => ih e b mb P T M A s F fm n W v y h hF hg he hy)
  have HE := Lib.hid (Ext.refl T M W)
  have HA := Lib.hid (List.prefix_refl A)
  obtain ⟨g, rfl⟩ := he.ptr
  clear h hF hg he hr ih
  go_enter Tryz.func157, Tryz.ntmps157
  go_wp2_with fail
  go_at_call 139
  refine rbind_of HE HA HX HC.out ?_ ?_
  · rintro g s' rfl older w H
    obtain ⟨M', A', k1, k2, k3⟩ := H.out
    go_wp2
    exact ⟨rfl, ⟨older, rfl⟩, M', A', k1, k2, k3⟩
  · rintro a s' - HX2 e w M' A' ⟨v, rfl, hv⟩ HR - HE2 - HA2
    obtain rfl := (Option.some.inj HX2.out).symm
    clear HX HX2 HC
    obtain ⟨av, rfl⟩ := hv.num
    have hfl := fld_n a.n av
    go_wp2
    go_ret
    exact ⟨M', A', rfl, HR.out, HE2.out, HA2.out⟩
end Go.Proofs.YtdgedlhefjmcpaaGreatDoor.TreeP
