/- What a mark of two comes to, of any two numbers: mid.Both. No conditions. -/
import Derived.Test.YtnicpmoanjddbaaGreatDoorMidElse
namespace Go.Proofs.YtnicpmoanjddbaaGreatDoor.MidP
open Go.RowKit Go.Proofs.YtnicpmoanjddbaaGreatDoor.Wo Go.Maps Go.Proofs.YtnicpmoanjddbaaGreatDoor.TreeP
set_option linter.unusedVariables false
set_option linter.unusedSimpArgs false
def pairV (p : Int × Int) : Value := .tuple #[.int .i64 p.1, .int .i64 p.2]
set_option maxRecDepth 100000 in
set_option maxHeartbeats 4000000 in
theorem mboth_any (op : List UInt8) (a b : Int) (W : World) :
    Calls Tryz.prog 83 #[str op, .int .i64 a, .int .i64 b] W fun e w => e = .returned (pairV (bothP op a b)) ∧ W = w := by
  unfold str
  by_cases h0 : op = [43]
  · subst h0
    have ht : bothP [43] a b = (wrap64 (a + b), 0) := by unfold bothP; rfl
    rw [ht]
    clear ht
    go_enter Tryz.func83, Tryz.ntmps83
    go_wp2
    go_ret2
    exact ⟨rfl, rfl⟩
  by_cases h1 : op = [45]
  · subst h1
    have ht : bothP [45] a b = (wrap64 (a - b), 0) := by unfold bothP; rfl
    rw [ht]
    clear ht
    go_enter Tryz.func83, Tryz.ntmps83
    go_wp2
    go_ret2
    exact ⟨rfl, rfl⟩
  by_cases h2 : op = [42]
  · subst h2
    have ht : bothP [42] a b = (wrap64 (a * b), 0) := by unfold bothP; rfl
    rw [ht]
    clear ht
    go_enter Tryz.func83, Tryz.ntmps83
    go_wp2
    go_ret2
    exact ⟨rfl, rfl⟩
  by_cases h3 : op = [47]
  · subst h3
    by_cases hz : b = 0
    · subst hz
      have ht : bothP [47] a 0 = (0, 2) := by unfold bothP; rfl
      rw [ht]
      clear ht
      go_enter Tryz.func83, Tryz.ntmps83
      go_wp2
      go_ret2
      exact ⟨rfl, rfl⟩
    · have hb0 : (b == 0) = false := by simpa using hz
      have ht : bothP [47] a b = (wrap64 (a.tdiv b), 0) := by unfold bothP; rw [if_neg (by decide), if_neg (by decide), if_neg (by decide), if_pos (by decide), if_neg hz]; rfl
      rw [ht]
      clear ht
      go_enter Tryz.func83, Tryz.ntmps83
      go_wp2
      go_ret2
      exact ⟨by first | rfl | simp [pairV, wrap64, IntKind.wrap_i64], rfl⟩
  by_cases h4 : op = [37]
  · subst h4
    by_cases hz : b = 0
    · subst hz
      have ht : bothP [37] a 0 = (0, 2) := by unfold bothP; rfl
      rw [ht]
      clear ht
      go_enter Tryz.func83, Tryz.ntmps83
      go_wp2
      go_ret2
      exact ⟨rfl, rfl⟩
    · have hb0 : (b == 0) = false := by simpa using hz
      have ht : bothP [37] a b = (a.tmod b, 0) := by unfold bothP; rw [if_neg (by decide), if_neg (by decide), if_neg (by decide), if_pos (by decide), if_neg hz]; rfl
      rw [ht]
      clear ht
      go_enter Tryz.func83, Tryz.ntmps83
      go_wp2
      go_ret2
      exact ⟨by first | rfl | simp [pairV, wrap64, IntKind.wrap_i64], rfl⟩
  by_cases h5 : op = [61, 61]
  · subst h5
    have ht : bothP [61, 61] a b = (oneB (a == b), 0) := by unfold bothP; rfl
    by_cases h : a = b
    · have hv : oneB (a == b) = 1 := by simp [oneB]; omega
      have hd : (a == b) = true := by simpa using h
      have hd1 : (a != b) = false := by simpa using h
      rw [ht, hv]
      clear ht hv h
      go_enter Tryz.func83, Tryz.ntmps83
      go_wp2
      go_ret2
      exact ⟨rfl, rfl⟩
    · have hv : oneB (a == b) = 0 := by simp [oneB]; omega
      have hd : (a == b) = false := by simpa using h
      have hd1 : (a != b) = true := by simpa using h
      rw [ht, hv]
      clear ht hv h
      go_enter Tryz.func83, Tryz.ntmps83
      go_wp2
      go_ret2
      exact ⟨rfl, rfl⟩
  by_cases h6 : op = [33, 61]
  · subst h6
    have ht : bothP [33, 61] a b = (oneB (a != b), 0) := by unfold bothP; rfl
    by_cases h : a = b
    · have hv : oneB (a != b) = 0 := by simp [oneB]; omega
      have hd : (a == b) = true := by simpa using h
      have hd1 : (a != b) = false := by simpa using h
      rw [ht, hv]
      clear ht hv h
      go_enter Tryz.func83, Tryz.ntmps83
      go_wp2
      go_ret2
      exact ⟨rfl, rfl⟩
    · have hv : oneB (a != b) = 1 := by simp [oneB]; omega
      have hd : (a == b) = false := by simpa using h
      have hd1 : (a != b) = true := by simpa using h
      rw [ht, hv]
      clear ht hv h
      go_enter Tryz.func83, Tryz.ntmps83
      go_wp2
      go_ret2
      exact ⟨rfl, rfl⟩
  by_cases h7 : op = [60]
  · subst h7
    have ht : bothP [60] a b = (oneB (decide (a < b)), 0) := by unfold bothP; rfl
    by_cases h : a < b
    · have hv : oneB (decide (a < b)) = 1 := by simp [oneB]; omega
      have hd : decide (a < b) = true := by simpa using h
      have hd2 : (a < b) := h
      rw [ht, hv]
      clear ht hv h
      go_enter Tryz.func83, Tryz.ntmps83
      go_wp2
      go_ret2
      exact ⟨rfl, rfl⟩
    · have hv : oneB (decide (a < b)) = 0 := by simp [oneB]; omega
      have hd : decide (a < b) = false := by simpa using h
      have hd2 : ¬ (a < b) := h
      rw [ht, hv]
      clear ht hv h
      go_enter Tryz.func83, Tryz.ntmps83
      go_wp2
      go_ret2
      exact ⟨rfl, rfl⟩
  by_cases h8 : op = [60, 61]
  · subst h8
    have ht : bothP [60, 61] a b = (oneB (decide (a ≤ b)), 0) := by unfold bothP; rfl
    by_cases h : a ≤ b
    · have hv : oneB (decide (a ≤ b)) = 1 := by simp [oneB]; omega
      have hd : decide (a ≤ b) = true := by simpa using h
      have hd2 : (a ≤ b) := h
      rw [ht, hv]
      clear ht hv h
      go_enter Tryz.func83, Tryz.ntmps83
      go_wp2
      go_ret2
      exact ⟨rfl, rfl⟩
    · have hv : oneB (decide (a ≤ b)) = 0 := by simp [oneB]; omega
      have hd : decide (a ≤ b) = false := by simpa using h
      have hd2 : ¬ (a ≤ b) := h
      rw [ht, hv]
      clear ht hv h
      go_enter Tryz.func83, Tryz.ntmps83
      go_wp2
      go_ret2
      exact ⟨rfl, rfl⟩
  by_cases h9 : op = [62]
  · subst h9
    have ht : bothP [62] a b = (oneB (decide (a > b)), 0) := by unfold bothP; rfl
    by_cases h : b < a
    · have hv : oneB (decide (a > b)) = 1 := by simp [oneB]; omega
      have hd : decide (b < a) = true := by simpa using h
      have hd2 : (b < a) := h
      rw [ht, hv]
      clear ht hv h
      go_enter Tryz.func83, Tryz.ntmps83
      go_wp2
      go_ret2
      exact ⟨rfl, rfl⟩
    · have hv : oneB (decide (a > b)) = 0 := by simp [oneB]; omega
      have hd : decide (b < a) = false := by simpa using h
      have hd2 : ¬ (b < a) := h
      rw [ht, hv]
      clear ht hv h
      go_enter Tryz.func83, Tryz.ntmps83
      go_wp2
      go_ret2
      exact ⟨rfl, rfl⟩
  by_cases h10 : op = [62, 61]
  · subst h10
    have ht : bothP [62, 61] a b = (oneB (decide (a ≥ b)), 0) := by unfold bothP; rfl
    by_cases h : b ≤ a
    · have hv : oneB (decide (a ≥ b)) = 1 := by simp [oneB]; omega
      have hd : decide (b ≤ a) = true := by simpa using h
      have hd2 : (b ≤ a) := h
      rw [ht, hv]
      clear ht hv h
      go_enter Tryz.func83, Tryz.ntmps83
      go_wp2
      go_ret2
      exact ⟨rfl, rfl⟩
    · have hv : oneB (decide (a ≥ b)) = 0 := by simp [oneB]; omega
      have hd : decide (b ≤ a) = false := by simpa using h
      have hd2 : ¬ (b ≤ a) := h
      rw [ht, hv]
      clear ht hv h
      go_enter Tryz.func83, Tryz.ntmps83
      go_wp2
      go_ret2
      exact ⟨rfl, rfl⟩
  have ht : bothP op a b = (0, 0) := by
    unfold bothP
    rw [if_neg h0, if_neg h1, if_neg h2, if_neg (fun e => e.elim h3 h4), if_neg h5, if_neg h6, if_neg h7, if_neg h8, if_neg h9, if_neg h10]
  rw [ht]
  clear ht
  have k0 : ((⟨op.toArray⟩ : ByteArray) == ⟨#[43]⟩) = false := by rw [show (⟨#[43]⟩ : ByteArray) = ⟨([43] : List UInt8).toArray⟩ from rfl, str_beq]; simpa using h0
  have j0 : (op == [43]) = false := by simpa using h0
  have k1 : ((⟨op.toArray⟩ : ByteArray) == ⟨#[45]⟩) = false := by rw [show (⟨#[45]⟩ : ByteArray) = ⟨([45] : List UInt8).toArray⟩ from rfl, str_beq]; simpa using h1
  have j1 : (op == [45]) = false := by simpa using h1
  have k2 : ((⟨op.toArray⟩ : ByteArray) == ⟨#[42]⟩) = false := by rw [show (⟨#[42]⟩ : ByteArray) = ⟨([42] : List UInt8).toArray⟩ from rfl, str_beq]; simpa using h2
  have j2 : (op == [42]) = false := by simpa using h2
  have k3 : ((⟨op.toArray⟩ : ByteArray) == ⟨#[47]⟩) = false := by rw [show (⟨#[47]⟩ : ByteArray) = ⟨([47] : List UInt8).toArray⟩ from rfl, str_beq]; simpa using h3
  have j3 : (op == [47]) = false := by simpa using h3
  have k4 : ((⟨op.toArray⟩ : ByteArray) == ⟨#[37]⟩) = false := by rw [show (⟨#[37]⟩ : ByteArray) = ⟨([37] : List UInt8).toArray⟩ from rfl, str_beq]; simpa using h4
  have j4 : (op == [37]) = false := by simpa using h4
  have k5 : ((⟨op.toArray⟩ : ByteArray) == ⟨#[61, 61]⟩) = false := by rw [show (⟨#[61, 61]⟩ : ByteArray) = ⟨([61, 61] : List UInt8).toArray⟩ from rfl, str_beq]; simpa using h5
  have j5 : (op == [61, 61]) = false := by simpa using h5
  have k6 : ((⟨op.toArray⟩ : ByteArray) == ⟨#[33, 61]⟩) = false := by rw [show (⟨#[33, 61]⟩ : ByteArray) = ⟨([33, 61] : List UInt8).toArray⟩ from rfl, str_beq]; simpa using h6
  have j6 : (op == [33, 61]) = false := by simpa using h6
  have k7 : ((⟨op.toArray⟩ : ByteArray) == ⟨#[60]⟩) = false := by rw [show (⟨#[60]⟩ : ByteArray) = ⟨([60] : List UInt8).toArray⟩ from rfl, str_beq]; simpa using h7
  have j7 : (op == [60]) = false := by simpa using h7
  have k8 : ((⟨op.toArray⟩ : ByteArray) == ⟨#[60, 61]⟩) = false := by rw [show (⟨#[60, 61]⟩ : ByteArray) = ⟨([60, 61] : List UInt8).toArray⟩ from rfl, str_beq]; simpa using h8
  have j8 : (op == [60, 61]) = false := by simpa using h8
  have k9 : ((⟨op.toArray⟩ : ByteArray) == ⟨#[62]⟩) = false := by rw [show (⟨#[62]⟩ : ByteArray) = ⟨([62] : List UInt8).toArray⟩ from rfl, str_beq]; simpa using h9
  have j9 : (op == [62]) = false := by simpa using h9
  have k10 : ((⟨op.toArray⟩ : ByteArray) == ⟨#[62, 61]⟩) = false := by rw [show (⟨#[62, 61]⟩ : ByteArray) = ⟨([62, 61] : List UInt8).toArray⟩ from rfl, str_beq]; simpa using h10
  have j10 : (op == [62, 61]) = false := by simpa using h10
  clear h0 h1 h2 h3 h4 h5 h6 h7 h8 h9 h10
  go_enter Tryz.func83, Tryz.ntmps83
  go_wp2
  go_ret2
  exact ⟨rfl, rfl⟩
end Go.Proofs.YtnicpmoanjddbaaGreatDoor.MidP
