/- Maps from names, as they lie. No conditions. -/
import Derived.Test.YtdgedlhefjmcpaaGreatDoorTreeMem
import Derived.Test.YtdgedlhefjmcpaaGreatDoorRunPl
import Derived.Maps.OwnSet
namespace Go.Proofs.YtdgedlhefjmcpaaGreatDoor.TreeP
open Go.RowKit Go.Proofs.YtdgedlhefjmcpaaGreatDoor.Wo Go.Maps
set_option linter.unusedVariables false
set_option linter.unusedSimpArgs false
/-- A value of a map, as it stands. -/
def heldR (v : Value) : Option (DataW Value × List MemPlace) := some (.held v, [])
def getL (z : Value) : List (List UInt8 × Value) → List UInt8 → Value
  | [], _ => z
  | p :: r, s => if p.1 == s then p.2 else getL z r s
def putL : List (List UInt8 × Value) → List UInt8 → Value → List (List UInt8 × Value)
  | [], s, v => [(s, v)]
  | p :: r, s, v => if p.1 == s then (s, v) :: r else p :: putL r s v
theorem getL_put (z : Value) : (F : List (List UInt8 × Value)) → (s : List UInt8) → (v : Value) → (x : List UInt8) → getL z (putL F s v) x = if x = s then v else getL z F x
  | [], s, v, x => by
    simp only [putL, getL, beq_iff_eq]
    by_cases h : x = s
    · subst h; simp
    · rw [if_neg h, if_neg (fun e => h e.symm)]
  | p :: r, s, v, x => by
    simp only [putL]
    by_cases hp : p.1 = s
    · rw [if_pos (by simpa using hp)]
      simp only [getL, beq_iff_eq]
      by_cases h : x = s
      · subst h; simp
      · rw [if_neg h, if_neg (fun e => h e.symm), if_neg (fun e => h (e.symm.trans hp))]
    · rw [if_neg (by simpa using hp)]
      simp only [getL, beq_iff_eq]
      by_cases h : p.1 = x
      · rw [if_pos h, if_pos h, if_neg]
        rintro rfl
        exact hp h
      · rw [if_neg h, if_neg h, getL_put z r s v x]
/-- A map of names: at each name the value that F says, else z. -/
def NameMap (W : World) (bm n : Nat) (z : Value) (F : List (List UInt8 × Value)) : Prop :=
  ∃ D : DataW Value, W.ownsMap Tryz.prog 9 heldR bm n D ∧ ∀ s : List UInt8, D.atKey (.string s) (.held z) = .held (getL z F s)
theorem NameMap.mods {S : Nat → Prop} {W W' : World} {bm n : Nat} {z : Value} {F : List (List UInt8 × Value)} (h : NameMap W bm n z F) (hm : Mods S W W') (hn : ¬ S bm) : NameMap W' bm n z F := by
  obtain ⟨D, ⟨es, cl, h1, h2⟩, h3⟩ := h
  exact ⟨D, ⟨es, cl, hm.blockOf h1 hn, h2⟩, h3⟩
theorem NameMap.lt {W : World} {bm n : Nat} {z : Value} {F : List (List UInt8 × Value)} (h : NameMap W bm n z F) : bm < W.heap.size := by
  obtain ⟨D, h1, _⟩ := h
  exact h1.lt
theorem NameMap.new (W : World) (z : Value) : NameMap (W.alloc (.map #[] 0)) W.heap.size 0 z [] :=
  ⟨_, World.ownsMap_made _ _ _ _, fun s => rfl⟩
theorem NameMap.look {W : World} {bm n : Nat} {z : Value} {F : List (List UInt8 × Value)} (h : NameMap W bm n z F) {t e : TypeId} (ht : Tryz.prog.underlying t = some (.map 9 e)) (hz : (zeroValue e).run Tryz.prog W = .ok z W) (s : List UInt8) (hs : s.length ≤ 10000000) :
    (Instr.lookup t (.map (some bm)) (str s) false).run Tryz.prog W = .ok (getL z F s) W := by
  obtain ⟨D, h1, h2⟩ := h
  obtain ⟨v, ps, hr, hv⟩ := h1.lookup strKeys ht hz (zd := .held z) (zp := []) rfl (keyStr hs)
  rw [h2 s] at hv
  simp only [heldR, Option.some.injEq, Prod.mk.injEq, DataW.held.injEq] at hv
  rw [hr, hv.1]
theorem NameMap.put {W : World} {bm n : Nat} {z : Value} {F : List (List UInt8 × Value)} (h : NameMap W bm n z F) {t e : TypeId} (ht : Tryz.prog.underlying t = some (.map 9 e)) (s : List UInt8) (hs : s.length ≤ 10000000) (v : Value) (hn : n < maxLen) :
    ∃ w', (Instr.mapUpdate t (.map (some bm)) (str s) v).run Tryz.prog W = .ok () w' ∧ NameMap w' bm (n + 1) z (putL F s v) ∧ Mods (· = bm) W w' := by
  obtain ⟨D, h1, h2⟩ := h
  obtain ⟨w', hr, ho, hg⟩ := h1.update strKeys ht hn (keyStr hs) (d := .held v) (ps := []) rfl
  refine ⟨w', hr, ⟨_, ho, fun x => ?_⟩, Mods.of_grownBy hg (fun k hk _ => by cases hk; rfl)⟩
  rw [getL_put]
  by_cases hx : x = s
  · subst hx
    rw [if_pos rfl, atKey_put_same (k := .string x) h1.isMap (by trivial)]
  · rw [if_neg hx, atKey_put_other (by simpa using hx), h2 x]
end Go.Proofs.YtdgedlhefjmcpaaGreatDoor.TreeP
