/- Where all lies: contracts of emit.Plan and of the document's Plan, of words and bytes from 0 to 2^20: both tell the same six numbers. -/
import Derived.Test.YtclmnjbillkieaaRows
import Derived.Test.YtclmnjbillkieaaAluRef
import Derived.WalkKit
import Derived.ProofKit
import Derived.WalkSpells
import Derived.WalkLawsBesides
import Derived.Deep.RegionWith
namespace Go.Proofs.Ytclmnjbillkieaa.PlanP
open Go.RowKit AluP
set_option linter.unusedVariables false

theorem andNot7 (x : Int) (h : 0 ≤ x ∧ x ≤ 4611686018427387904) : bits .andNot .i64 x 7 = x - x % 8 := by
  have h2 : (BitVec.ofInt 64 x).toNat = x.toNat := by rw [BitVec.toNat_ofInt]; omega
  have h1 : (BitVec.ofInt 64 x &&& ~~~ BitVec.ofInt 64 7).toNat = (x - x % 8).toNat := by
    have k : ∀ i : Fin 64, (~~~ BitVec.ofInt 64 7).getLsbD i.val = decide (3 ≤ i.val) := by decide
    have hs : (BitVec.ofInt 64 x &&& ~~~ BitVec.ofInt 64 7) = (BitVec.ofInt 64 x >>> 3) <<< 3 := by
      apply BitVec.eq_of_getLsbD_eq
      intro i hi
      have := k ⟨i, hi⟩
      rw [BitVec.getLsbD_and, this, BitVec.getLsbD_shiftLeft, BitVec.getLsbD_ushiftRight]
      by_cases h3 : i < 3
      · simp [h3]
      · simp [h3, hi, show 3 + (i - 3) = i from by omega]; omega
    rw [hs, BitVec.toNat_shiftLeft, BitVec.toNat_ushiftRight, h2, Nat.shiftLeft_eq, Nat.shiftRight_eq_div_pow]
    omega
  show IntKind.i64.wrap ((BitVec.ofInt 64 x &&& ~~~BitVec.ofInt 64 7).toNat : Int) = _
  rw [h1, IntWalk.i64_in _ (by omega)]
  omega

/-- n, cut to a multiple of 8. -/
def cut (n : Int) : Int := n - n % 8
theorem cut_le {n : Int} (h : 0 ≤ n) : 0 ≤ cut n ∧ cut n ≤ n := by unfold cut; omega
/-- The rest behind the code. -/
def rest (a b : Int) : Int := if b < cut (4 * a + 7) then 0 else b - cut (4 * a + 7)
def lay (c r b : Int) : Array Value :=
  #[.int .i64 c, .int .i64 c, .int .i64 (c + cut (r / 8)), .int .i64 (c + cut (r / 8) + cut ((r - cut (r / 8) - cut (r / 4)) / 2)), .int .i64 (b - cut (r / 4)), .int .i64 b]
/-- The six numbers. -/
def plan (a b : Int) : Value := .agg (lay (cut (4 * a + 7)) (rest a b) b)
def Range (n : Int) : Prop := 0 ≤ n ∧ n ≤ 1048576

theorem ret_agg {x y : Array Value} (h : x = y) : Ending.returned (.agg x) = .returned (.agg y) := by rw [h]
theorem arr6 {a b c d e f a' b' c' d' e' f' : Int} (h1 : a = a') (h2 : b = b') (h3 : c = c') (h4 : d = d') (h5 : e = e') (h6 : f = f') :
    #[Value.int .i64 a, .int .i64 b, .int .i64 c, .int .i64 d, .int .i64 e, .int .i64 f] = #[Value.int .i64 a', .int .i64 b', .int .i64 c', .int .i64 d', .int .i64 e', .int .i64 f'] := by
  rw [h1, h2, h3, h4, h5, h6]

set_option maxRecDepth 100000 in
set_option maxHeartbeats 4000000 in
theorem plan_walk (a b c r d e h : Int) (w : World) (ha : Range a) (hb : Range b)
    (h1 : bits .andNot .i64 (4 * a + 7) 7 = c) (h2 : bits .andNot .i64 (r / 8) 7 = d) (h3 : bits .andNot .i64 (r / 4) 7 = e) (h4 : bits .andNot .i64 ((r - d - e) / 2) 7 = h)
    (hc : 0 ≤ c ∧ c ≤ 8388608) (hr : r = if b < c then 0 else b - c) (hd : 0 ≤ d ∧ d ≤ r / 8) (he : 0 ≤ e ∧ e ≤ r / 4) (hh : 0 ≤ h ∧ h ≤ 8388608) :
    Calls Try.prog 7 #[.int .i64 a, .int .i64 b] w fun e' w' => e' = .returned (.agg #[.int .i64 c, .int .i64 c, .int .i64 (c + d), .int .i64 (c + d + h), .int .i64 (b - e), .int .i64 b]) ∧ Grown w w' := by
  unfold Range at ha hb
  by_cases hl : b < c
  · rw [if_pos hl] at hr
    subst hr
    have hm : max (b - c) 0 = 0 := by omega
    have hd0 : d = 0 := by omega
    have he0 : e = 0 := by omega
    subst hd0; subst he0
    have hz : bits .andNot .i64 0 7 = 0 := andNot7 0 (by omega)
    obtain rfl : h = 0 := by rw [← h4]; exact hz
    clear h2 h3 h4
    go_enter Try.func7, Try.ntmps7
    go_wp2
    refine bodyPost_ret (v := .agg #[.int .i64 c, .int .i64 c, .int .i64 c, .int .i64 c, .int .i64 b, .int .i64 b]) (by simp [results, Try.results7, go_sem]) rfl ⟨?_, ?_⟩
    · exact ret_agg (arr6 rfl rfl (by omega) (by omega) (by omega) rfl)
    · exact (Grown.refl _).alloc _ _
  · rw [if_neg hl] at hr
    have hr' : b - c = r := hr.symm
    have hr0 : 0 ≤ r ∧ r ≤ 1048576 := by omega
    clear hr
    have hm : max r 0 = r := by omega
    go_enter Try.func7, Try.ntmps7
    go_wp2
    refine bodyPost_ret (v := .agg #[.int .i64 c, .int .i64 c, .int .i64 (c + d), .int .i64 (c + d + h), .int .i64 (b - e), .int .i64 b]) (by simp [results, Try.results7, go_sem]) rfl ⟨rfl, ?_⟩
    exact (Grown.refl _).alloc _ _

theorem rest_in (a b : Int) (ha : Range a) (hb : Range b) : 0 ≤ rest a b ∧ rest a b ≤ 1048576 := by
  have := cut_le (n := 4 * a + 7) (by unfold Range at ha; omega)
  unfold rest Range at *; split <;> omega
theorem plan_any (a b : Int) (ha : Range a) (hb : Range b) (w : World) :
    Calls Try.prog 7 #[.int .i64 a, .int .i64 b] w fun e' w' => e' = .returned (plan a b) ∧ Grown w w' := by
  have hr := rest_in a b ha hb
  have hc := cut_le (n := 4 * a + 7) (by unfold Range at ha; omega)
  have h8 := cut_le (n := rest a b / 8) (by omega)
  have h4 := cut_le (n := rest a b / 4) (by omega)
  have hh := cut_le (n := (rest a b - cut (rest a b / 8) - cut (rest a b / 4)) / 2) (by omega)
  have ha' := ha
  unfold Range at ha'
  exact plan_walk a b (cut (4 * a + 7)) (rest a b) (cut (rest a b / 8)) (cut (rest a b / 4)) (cut ((rest a b - cut (rest a b / 8) - cut (rest a b / 4)) / 2)) w ha hb
    (andNot7 _ (by omega)) (andNot7 _ (by omega)) (andNot7 _ (by omega)) (andNot7 _ (by omega)) ⟨hc.1, by omega⟩ rfl h8 h4 ⟨hh.1, by omega⟩
end Go.Proofs.Ytclmnjbillkieaa.PlanP
