/- The machine as plain data: registers, bytes, where it is; what a step does, and what so many do. No program in sight. No conditions. -/
import Derived.Test.YtgeajgdddjjjnaaDoorWordDecode
import Derived.Test.YtgeajgdddjjjnaaDoorAluPlain
import Derived.Test.YtgeajgdddjjjnaaDoorMachBytes
namespace Go.Proofs.YtgeajgdddjjjnaaDoor.MachP
open Go.RowKit Go.Proofs.YtgeajgdddjjjnaaDoor.WordP Go.Proofs.YtgeajgdddjjjnaaDoor.AluP
set_option linter.unusedVariables false
set_option linter.unusedSimpArgs false

structure Mac where
  regs : List Int
  mem : List Int
  pc : Int
  ins : List Int
  way : Int
  code : Int
  out : List Int
  deriving DecidableEq

def Mac.reg (m : Mac) (n : Int) : Int := m.regs.getD n.toNat 0
def Mac.put (m : Mac) (n v : Int) : Mac := { m with regs := m.regs.set n.toNat v }
def Mac.right (m : Mac) (p n : Int) : Bool := rightM m.mem.length p n
def Mac.bytes (m : Mac) (p : Int) (n : Nat) : List Int := (m.mem.drop p.toNat).take n
def Mac.load (m : Mac) (p : Int) : Int := wrap64 (le (m.bytes p 8))
def Mac.store (m : Mac) (p v : Int) : Mac := { m with mem := over m.mem p.toNat (digits 8 (v % 18446744073709551616)) }
def Mac.fault (m : Mac) : Mac := { m with way := 9 }
def Mac.goto (m : Mac) (p : Int) : Mac := { m with pc := p }
def even (x : Int) : Int := x - x % 2
/-- What is asked of those outside; false: it ended. -/
def Mac.call (m : Mac) : Mac × Bool :=
  if m.reg 17 = 1 then
    if m.out.length ≥ 200 then ({ m with way := 7 }, false) else ({ m with out := m.out ++ [m.reg 10] }, true)
  else if m.reg 17 = 2 then
    match m.ins with
    | [] => (m.put 10 0, true)
    | x :: r => ({ m.put 10 x with ins := r }, true)
  else if m.reg 17 = 3 then
    if 1 ≤ m.reg 10 ∧ m.reg 10 ≤ 8 then ({ m with way := m.reg 10, code := m.reg 11 }, false) else (m.fault, false)
  else (m.fault, false)
def takes (op a b : Int) : Bool :=
  if op = 25 then a == b else if op = 26 then a != b else if op = 27 then decide (a < b) else decide (b ≤ a)
def Mac.act (m : Mac) (x : Ins) : Mac :=
  let a := m.reg x.ra
  let b := m.reg x.rb
  let next := wrap64 (m.pc + 4)
  if x.op ≤ 13 then (m.put x.rd (alu x.op a b)).goto next
  else if x.op ≤ 21 then (m.put x.rd (alu x.op a x.n)).goto next
  else if x.op = 22 then
    if m.right (wrap64 (a + x.n)) 8 then (m.put x.rd (m.load (wrap64 (a + x.n)))).goto next else m.fault
  else if x.op = 23 then (m.put x.rd next).goto (even (wrap64 (a + x.n)))
  else if x.op = 24 then
    if m.right (wrap64 (a + x.n)) 8 then (m.store (wrap64 (a + x.n)) b).goto next else m.fault
  else if x.op ≤ 28 then
    if takes x.op a b then m.goto (wrap64 (m.pc + x.n)) else m.goto next
  else if x.op = 29 then (m.put x.rd x.n).goto next
  else if x.op = 30 then (m.put x.rd next).goto (wrap64 (m.pc + x.n))
  else if m.call.2 then m.call.1.goto next else m.call.1
def Mac.step (m : Mac) : Mac :=
  if m.way = 0 then
    if m.right m.pc 4 then
      match dec (le (m.bytes m.pc 4)) with
      | some x => (m.act x).put 0 0
      | none => m.fault
    else m.fault
  else m
def Mac.run : Nat → Mac → Mac
  | 0, m => m
  | k + 1, m => if m.way = 0 then m.step.run k else m
/-- How it ended, as it is told. -/
def Mac.endWay (m : Mac) : Int := if m.way = 0 then 6 else m.way
/-- The bytes of words, one behind the other. -/
def wordBytes (l : List Int) : List Int := l.flatMap (digits 4)
def Mac.new (words : List Int) (bytes : Nat) (ins : List Int) : Mac :=
  ⟨(List.replicate 32 0).set 2 bytes, wordBytes words ++ List.replicate (bytes - 4 * words.length) 0, 0, ins, 0, 0, []⟩

structure Mac.Ok (m : Mac) : Prop where
  regs : m.regs.length = 32
  byte : ∀ b ∈ m.mem, 0 ≤ b ∧ b < 256
  size : m.mem.length ≤ 65536

theorem Mac.Ok.put {m : Mac} (h : m.Ok) (n v : Int) : (m.put n v).Ok := ⟨by simp [Mac.put, h.regs], h.byte, h.size⟩
theorem Mac.Ok.goto {m : Mac} (h : m.Ok) (p : Int) : (m.goto p).Ok := ⟨h.regs, h.byte, h.size⟩
theorem Mac.Ok.fault {m : Mac} (h : m.Ok) : m.fault.Ok := ⟨h.regs, h.byte, h.size⟩
theorem Mac.Ok.store {m : Mac} (h : m.Ok) {p : Int} (v : Int) (hp : m.right p 8 = true) : (m.store p v).Ok := by
  have h1 := rightM_parts hp
  refine ⟨h.regs, over_byte h.byte (digits_byte _ _), ?_⟩
  show (over _ _ _).length ≤ _
  rw [over_length _ _ _ (by rw [digits_length]; omega)]
  exact h.size
theorem Mac.Ok.call {m : Mac} (h : m.Ok) : m.call.1.Ok := by
  unfold Mac.call
  repeat' split
  all_goals first | exact ⟨h.regs, h.byte, h.size⟩ | exact h.put _ _ | exact ⟨(h.put 10 _).regs, h.byte, h.size⟩
theorem Mac.Ok.act {m : Mac} (h : m.Ok) (x : Ins) : (m.act x).Ok := by
  unfold Mac.act
  dsimp only
  repeat' split
  all_goals first | exact (h.put _ _).goto _ | exact h.goto _ | exact h.fault | exact (h.store _ (by assumption)).goto _ | exact h.call.goto _ | exact h.call
theorem Mac.Ok.step {m : Mac} (h : m.Ok) : m.step.Ok := by
  unfold Mac.step
  repeat' split
  all_goals first | exact (h.act _).put _ _ | exact h.fault | exact h
theorem Mac.Ok.run : ∀ (k : Nat) {m : Mac}, m.Ok → (m.run k).Ok
  | 0, _, h => h
  | k + 1, m, h => by
    unfold Mac.run
    split
    · exact Mac.Ok.run k h.step
    · exact h
end Go.Proofs.YtgeajgdddjjjnaaDoor.MachP
