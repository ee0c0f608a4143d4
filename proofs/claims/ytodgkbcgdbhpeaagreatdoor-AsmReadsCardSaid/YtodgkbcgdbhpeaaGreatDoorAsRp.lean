/- What the reference's reading of an instruction is held to. -/
import Derived.Test.YtodgkbcgdbhpeaaGreatDoorAsRa
import Derived.Test.YtodgkbcgdbhpeaaGreatDoorAsmD
import Derived.Test.YtodgkbcgdbhpeaaGreatDoorAsmQ
import Derived.Deep.QuietTactic
namespace Go.Proofs.YtodgkbcgdbhpeaaGreatDoor.AsmP
open Go.RowKit Go.Proofs.YtodgkbcgdbhpeaaGreatDoor.WordP Go.Proofs.YtodgkbcgdbhpeaaGreatDoor.Wo Go.Proofs.YtodgkbcgdbhpeaaGreatDoor.RefP
set_option linter.unusedVariables false
set_option linter.unusedSimpArgs false
theorem ref_index (s : List UInt8) (c : UInt8) (W : World) : Calls Tryz.prog 36 #[str s, .int .u8 c.toNat] W fun e w => e = .returned (.int .i64 (Lib.indexByte s c)) ∧ w = W := by
  have h := Tryz.strings_IndexByte ⟨s.toArray⟩ c.toNat W
  have e : (c.toNat : Int).toNat.toUInt8 = c := by simp
  rw [e] at h
  exact h
theorem names_same : ∀ i : Fin 32, 1 ≤ i.val → nameOf i.val = ⟨(opName i.val).toArray⟩ := by decide +kernel
theorem opOf_name {n : List UInt8} {k : Int} (h1 : 1 ≤ k) (h2 : k ≤ 31) : opName k = n ↔ opOf n = k := by
  obtain ⟨i, hi, hi1⟩ := op_fin h1 h2
  constructor
  · intro h
    have := (names_tab i hi1).1
    rw [← hi, h] at this
    exact this
  · intro h
    unfold opOf at h
    cases hf : nameList.findIdx? (fun m => m == n) with
    | none => rw [hf] at h; simp only at h; omega
    | some j =>
      rw [hf] at h
      simp only at h
      obtain ⟨hj, hp, -⟩ := List.findIdx?_eq_some_iff_getElem.1 hf
      unfold opName
      rw [List.getD_eq_getElem?_getD, show k.toNat = j by omega, List.getElem?_eq_getElem hj]
      simpa using hp
/-- Which op was found so far. -/
def opX (n : List UInt8) (k : Nat) : Int := if 1 ≤ opOf n ∧ opOf n < k then opOf n else 0
theorem opX_hit {n : List UInt8} {k : Nat} (h1 : 1 ≤ k) (h : opOf n = k) : opX n (k + 1) = k := by
  unfold opX
  rw [if_pos (by omega), h]
theorem opX_miss {n : List UInt8} {k : Nat} (h : opOf n ≠ k) : opX n (k + 1) = opX n k := by
  unfold opX
  by_cases h1 : 1 ≤ opOf n ∧ opOf n < k
  · rw [if_pos h1, if_pos (by omega)]
  · rw [if_neg h1, if_neg (by omega)]
theorem opX_one (n : List UInt8) : opX n 1 = 0 := by
  unfold opX
  rw [if_neg (by omega)]
theorem opX_end (n : List UInt8) : (opX n 40 = 0 ∧ opOf n < 1) ∨ (opX n 40 = opOf n ∧ 1 ≤ opOf n ∧ opOf n ≤ 31) := by
  have := op_range n
  unfold opX
  by_cases h : 1 ≤ opOf n
  · exact .inr ⟨by rw [if_pos (by omega)], h, this.2⟩
  · exact .inl ⟨by rw [if_neg (by omega)], by omega⟩
theorem set_five {w : World} {b : Nat} {t : TypeId} {a0 a1 a2 a3 a4 : Value} (h : Blk w b [a0, a1, a2, a3, a4] t) (v0 v1 v2 v3 v4 : Value) :
    Blk (((((w.setCell ⟨b, 0, none⟩ v0).setCell ⟨b, 1, none⟩ v1).setCell ⟨b, 2, none⟩ v2).setCell ⟨b, 3, none⟩ v3).setCell ⟨b, 4, none⟩ v4) b [v0, v1, v2, v3, v4] t ∧
    Mods (fun k => k = b) w (((((w.setCell ⟨b, 0, none⟩ v0).setCell ⟨b, 1, none⟩ v1).setCell ⟨b, 2, none⟩ v2).setCell ⟨b, 3, none⟩ v3).setCell ⟨b, 4, none⟩ v4) :=
  ⟨((((h.set 0 v0).set 1 v1).set 2 v2).set 3 v3).set 4 v4, (((((Mods.refl (fun k => k = b) w).setCell (p := ⟨b, 0, none⟩) (fun _ => rfl) _).setCell (p := ⟨b, 1, none⟩) (fun _ => rfl) _).setCell (p := ⟨b, 2, none⟩) (fun _ => rfl) _).setCell (p := ⟨b, 3, none⟩) (fun _ => rfl) _).setCell (p := ⟨b, 4, none⟩) (fun _ => rfl) _⟩
theorem set_fiveE {w : World} {b : Nat} {t : TypeId} {a0 a1 a2 a3 a4 : Value} (h : Blk w b [a0, a1, a2, a3, a4] t) (v0 v1 v2 v3 v4 : Value) :
    ∃ q, q = (((((w.setCell ⟨b, 0, none⟩ v0).setCell ⟨b, 1, none⟩ v1).setCell ⟨b, 2, none⟩ v2).setCell ⟨b, 3, none⟩ v3).setCell ⟨b, 4, none⟩ v4) ∧ Blk q b [v0, v1, v2, v3, v4] t ∧ Mods (fun k => k = b) w q :=
  ⟨_, rfl, (set_five h v0 v1 v2 v3 v4).1, (set_five h v0 v1 v2 v3 v4).2⟩
theorem zero_64 : -9223372036854775808 ≤ (0 : Int) ∧ (0 : Int) ≤ 9223372036854775807 := by decide
theorem extract_mid (r : List UInt8) (a b : Nat) : (⟨r.toArray⟩ : ByteArray).extract a b = ⟨((r.take b).drop a).toArray⟩ := by
  apply ByteArray.ext
  rw [ByteArray.data_extract]
  simp [List.drop_take]
theorem run_last {w : List UInt8} {c : UInt8} (h0 : 0 < w.length) (hc : w[w.length - 1]? = some c) (k : Int) (hk : k = (w.length : Int) - 1) (W : World) : (Instr.index 9 (.string ⟨w.toArray⟩) (.int .i64 k)).run Tryz.prog W = .ok (.int .u8 c.toNat) W := by
  rw [run_index_string (P := Tryz.prog) W 9 ⟨w.toArray⟩ .i64 k Tryz.underlying9]
  have hz := size_str w
  rw [dif_pos ⟨by omega, by omega⟩]
  have e : k.toNat = w.length - 1 := by omega
  congr 3
  subst hk
  obtain ⟨h, e2⟩ := List.getElem?_eq_some_iff.1 hc
  rw [← e2]
  have : ∀ (j : Nat) (hj : j < (⟨w.toArray⟩ : ByteArray).size) (hj2 : j < w.length), (⟨w.toArray⟩ : ByteArray)[j]'hj = w[j]'hj2 := fun j hj hj2 => rfl
  rw [this _ _ (by omega)]
  have key : ∀ (a b : Nat) (ha : a < w.length) (hb : b < w.length), a = b → w[a]'ha = w[b]'hb := by
    rintro a b ha hb rfl
    rfl
  exact congrArg UInt8.toNat (key _ _ _ _ (by omega))
theorem parts_one (op : Int) : (partsOf op).length ≠ 1 := by
  unfold partsOf
  repeat (first | decide | split)
/-- What stands behind the op's name, cut. -/
def wsR (rest : List UInt8) : List (List UInt8) := if rest = [] then [] else splitL 44 rest
/-- What ReadInst answers. -/
def InstP (u : List UInt8) (W : World) (e : Ending) (w : World) : Prop :=
  (∃ x tgt b, e = .returned (.tuple #[x.val, str tgt, .bool b]) ∧ ((b = true ∧ lineT u = .inst x tgt ∧ I64s x) ∨ (b = false ∧ lineT u = .bad))) ∧ Mods None W w
theorem Left.none {form : List UInt8} {ws : List (List UInt8)} {x0 x : Ins} {i : Nat} {ok : Bool} {tgt : List UInt8} (h : Left form ws x0 i (ok && false) x tgt) : partsR form ws x0 [] = Option.none := by
  unfold Left at h
  rw [h, Bool.and_false]
  rfl
/-- Where the loop stands. -/
structure RiAt (W : World) (pb : ByteArray) (form : List UInt8) (ws : List (List UInt8)) (x0 : Ins) (bl it : Nat) (i : Nat) (ok : Bool) (x : Ins) (tgt : List UInt8) (wr : World) : Prop where
  at_ : wr.heap[it]? = some (.stringIter pb i)
  blk : Blk wr bl (instCells x.op x.rd x.ra x.rb x.n).toList 30
  left : Left form ws x0 i ok x tgt
  i64 : I64s x
  mods : Mods (fun k => k = bl) W wr
theorem mem_two {w p r : List UInt8} (hp : 40 ∉ p) (he : w = p ++ 40 :: (r ++ [41])) : cutL 40 (Lib.trimSuffix w [41]) = (p, r, true) ∧ Lib.hasSuffix w [41] = true := by
  have e : w = (p ++ 40 :: r) ++ [41] := by rw [he]; simp
  rw [e, trimSuffix_app, cutL_app hp, hasSuffix_one]
  exact ⟨rfl, by rw [last_app (by simp)]; rfl⟩
theorem mem_not {w : List UInt8} {x : Ins} {tgt : List UInt8} (h : 40 ∉ w ∨ w.getLast? ≠ some 41) : partR 109 w x tgt = none := by
  have e0 : partR 109 w x tgt = (match numR (cutL 40 (Lib.trimSuffix w [41])).1, regR (cutL 40 (Lib.trimSuffix w [41])).2.1 with
     | some n, some r => if (cutL 40 (Lib.trimSuffix w [41])).2.2 = true ∧ Lib.hasSuffix w [41] = true then some ({ x with n := n, ra := r }, tgt) else none
     | _, _ => none) := rfl
  rw [e0]
  have hno : ¬ ((cutL 40 (Lib.trimSuffix w [41])).2.2 = true ∧ Lib.hasSuffix w [41] = true) := by
    rintro ⟨h1, h2⟩
    rcases h with h | h
    · have : 40 ∉ Lib.trimSuffix w [41] := fun f => by
        unfold Lib.trimSuffix at f
        split at f <;> first | exact h (List.mem_of_mem_take f) | exact h f
      rw [cutL_none this] at h1
      cases h1
    · rw [hasSuffix_one] at h2
      exact h (by simpa using h2)
  split
  · rw [if_neg hno]
  · rfl
theorem trim_cut {a b : List UInt8} : Lib.trimB (32 :: b) 32 = Lib.trimB b 32 := trimB_32 b
end Go.Proofs.YtodgkbcgdbhpeaaGreatDoor.AsmP
