/- TreeLimits: a text so often. No conditions. -/
import Derived.Test.YtdgedlhefjmcpaaGreatDoorRefSamef
import Derived.Test.YtdgedlhefjmcpaaGreatDoorErrIs
import Derived.Test.YtdgedlhefjmcpaaGreatDoorTreePar
import Derived.Test.YtdgedlhefjmcpaaGreatDoorTreeBck
namespace Go.Proofs.YtdgedlhefjmcpaaGreatDoor.TreeP.R
open Go.RowKit Go.Proofs.YtdgedlhefjmcpaaGreatDoor.Wo Go.Proofs.YtdgedlhefjmcpaaGreatDoor.TreeP
set_option linter.unusedVariables false
set_option linter.unusedSimpArgs false
/-- A text so often. -/
def rep (s : List UInt8) : Nat → List UInt8
  | 0 => []
  | n + 1 => rep s n ++ s
theorem rep_len (s : List UInt8) : (n : Nat) → (rep s n).length = n * s.length
  | 0 => by simp [rep]
  | n + 1 => by rw [rep, List.length_append, rep_len s n, Nat.succ_mul]
set_option maxRecDepth 100000 in
set_option maxHeartbeats 800000 in
theorem repeat_any (s : List UInt8) (n : Nat) (hs : s.length ≤ 100) (hn : n ≤ 100000) (W : World) :
    Calls Tryz.prog 14 #[.string ⟨s.toArray⟩, .int .i64 n] W fun e w => e = .returned (.string ⟨(rep s n).toArray⟩) ∧ W = w := by
  go_enter Tryz.func14, Tryz.ntmps14
  go_wp2_with fail
  go_loopw [5, 6] (fun ov iv wr => ∃ i : Nat, i ≤ n ∧ iv = .int .i64 i ∧ ov = .string ⟨(rep s i).toArray⟩ ∧ Hid (W = wr)) (fun _ iv _ => (n - intOf iv).toNat)
  case atStart => exact ⟨0, Nat.zero_le _, rfl, rfl, Lib.hid (by first | trivial | rfl)⟩
  case round =>
    obtain ⟨i, hi, rfl, rfl, hw⟩ := hrel
    obtain rfl := hw.out
    clear hw
    by_cases hin : i < n
    · have hlt : (i : Int) < (n : Int) := by omega
      have hlen : (rep s i).length ≤ 10000000 := by rw [rep_len]; exact Nat.le_trans (Nat.mul_le_mul (show i ≤ 100000 by omega) hs) (by decide)
      have hq : ¬ 9223372036854775807 < (rep s i).length + s.length := by omega
      obtain ⟨o, ho⟩ : ∃ o, o = rep s i := ⟨_, rfl⟩
      have HO := Lib.hid ho
      rw [← ho] at hlen hq ⊢
      clear ho
      go_wp2_with fail
      refine ⟨⟨i + 1, by omega, by go_num, ?_, Lib.hid (by first | trivial | rfl)⟩, by simp [intOf]; omega⟩
      rw [rep, ← HO.out]
      simp [ba_append]
    · have hge : ¬ (i : Int) < (n : Int) := by omega
      obtain rfl : i = n := by omega
      go_wp2
      go_ret
      exact ⟨rfl, rfl⟩
theorem mod_small (n d : Int) (hd : 0 < d ∧ d ≤ 100) : ∃ k : Nat, (k : Int) < d ∧ wrap64 ((IntKind.u64.wrap n).tmod d) = (k : Int) := by
  have h0 : 0 ≤ IntKind.u64.wrap n := by simp [IntKind.wrap, IntKind.signed, IntKind.bits]; omega
  have h1 := Int.tmod_nonneg (b := d) (a := IntKind.u64.wrap n) h0
  have h2 := Int.tmod_lt_of_pos (IntKind.u64.wrap n) hd.1
  refine ⟨((IntKind.u64.wrap n).tmod d).toNat, by omega, ?_⟩
  have h3 := IntWalk.i64_in ((IntKind.u64.wrap n).tmod d) (by omega)
  rw [IntWalk.i64_left] at h3
  rw [h3]
  omega
/-- The document's Parse, of what a text is read as. -/
theorem ref_read (s : List UInt8) (x : Except (Int × Int) (List Fn)) (W : World) (hL : Lies W) (hlen : s.length ≤ 10000000) (h : ReadTo s x) : Calls Tryz.prog 15 #[str s] W (Parsed W x) := by
  rcases h with ⟨f, n, a, hx, rfl⟩ | ⟨f, fp, ts, y, hx, hp, rfl⟩
  · exact parse_bad s f n a W hL hlen hx
  · have h := parse_run s f fp ts y W hL hlen hx hp
    cases y <;> exact h
end Go.Proofs.YtdgedlhefjmcpaaGreatDoor.TreeP.R
