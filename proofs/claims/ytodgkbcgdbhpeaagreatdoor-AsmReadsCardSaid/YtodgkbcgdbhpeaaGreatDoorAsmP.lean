/- Instructions as text, plainly: how one is written; what a line is; texts. No program in sight. No conditions. -/
import Derived.Test.YtodgkbcgdbhpeaaGreatDoorAsmT
import Derived.Test.YtodgkbcgdbhpeaaGreatDoorWordIns
namespace Go.Proofs.YtodgkbcgdbhpeaaGreatDoor.AsmP
open Go.RowKit Go.Proofs.YtodgkbcgdbhpeaaGreatDoor.WordP
set_option linter.unusedVariables false
set_option linter.unusedSimpArgs false
/-- The names of ops. -/
def nameList : List (List UInt8) := [[], [97, 100, 100], [115, 117, 98], [109, 117, 108], [100, 105, 118], [114, 101, 109], [97, 110, 100], [111, 114], [120, 111, 114], [115, 108, 116], [115, 108, 116, 117], [115, 108, 108], [115, 114, 108], [115, 114, 97], [97, 100, 100, 105], [97, 110, 100, 105], [111, 114, 105], [120, 111, 114, 105], [115, 108, 116, 105], [115, 108, 108, 105], [115, 114, 108, 105], [115, 114, 97, 105], [108, 100], [106, 97, 108, 114], [115, 100], [98, 101, 113], [98, 110, 101], [98, 108, 116], [98, 103, 101], [108, 117, 105], [106, 97, 108], [101, 99, 97, 108, 108]]
def opName (op : Int) : List UInt8 := nameList.getD op.toNat []
/-- What stands behind an op's name. -/
def partsOf (op : Int) : List UInt8 :=
  if op ≤ 13 then [100, 97, 98] else if op ≤ 21 then [100, 97, 110] else if op = 22 ∨ op = 23 then [100, 109] else if op = 24 then [98, 109] else if op ≤ 28 then [97, 98, 116] else if op = 29 then [100, 110] else if op = 30 then [100, 116] else []
def pieceT (x : Ins) (c : UInt8) : List UInt8 :=
  if c = 100 then regT x.rd else if c = 97 then regT x.ra else if c = 98 then regT x.rb else if c = 109 then Lib.itoa x.n ++ [40] ++ regT x.ra ++ [41] else Lib.itoa x.n
/-- How an instruction is written. -/
def printB (x : Ins) : List UInt8 := if partsOf x.op = [] then opName x.op else opName x.op ++ [32] ++ Lib.join ((partsOf x.op).map (pieceT x)) [44]
/-- A letter of a place's name. -/
def nameC (c : UInt8) : Bool := lowB c || digB c || c == 95 || c == 46
def nameB (s : List UInt8) : Bool := decide (s.length ≤ 24) && (match s with | c :: _ => lowB c | [] => false) && s.all nameC
def partR (c : UInt8) (w : List UInt8) (x : Ins) (tgt : List UInt8) : Option (Ins × List UInt8) :=
  if c = 100 then (regR w).map fun n => ({ x with rd := n }, tgt)
  else if c = 97 then (regR w).map fun n => ({ x with ra := n }, tgt)
  else if c = 98 then (regR w).map fun n => ({ x with rb := n }, tgt)
  else if c = 109 then
    (let p := cutL 40 (Lib.trimSuffix w [41])
     match numR p.1, regR p.2.1 with
     | some n, some r => if p.2.2 = true ∧ Lib.hasSuffix w [41] = true then some ({ x with n := n, ra := r }, tgt) else none
     | _, _ => none)
  else if c = 116 then
    (match numR w with
     | some n => some ({ x with n := n }, tgt)
     | none => if nameB w = true then some ({ x with n := 0 }, w) else none)
  else (numR w).map fun n => ({ x with n := n }, tgt)
def partsR : List UInt8 → List (List UInt8) → Ins → List UInt8 → Option (Ins × List UInt8)
  | [], [], x, tgt => some (x, tgt)
  | c :: cs, w :: ws, x, tgt => (partR c w x tgt).bind fun p => partsR cs ws p.1 p.2
  | _, _, _, _ => none
/-- Which op is called so (-1: none). -/
def opOf (n : List UInt8) : Int := match nameList.findIdx? (fun m => m == n) with
  | some i => (i : Int)
  | none => -1
/-- What a line is. -/
inductive LineR where
  | blank
  | place (n : List UInt8)
  | inst (x : Ins) (tgt : List UInt8)
  | bad
  deriving DecidableEq
def wordsR (s : List UInt8) : List (List UInt8) := if (cutL 32 s).2.2 = true then splitL 44 (Lib.trimB (cutL 32 s).2.1 32) else []
/-- A line whose blanks at both ends are gone. -/
def lineT (s : List UInt8) : LineR :=
  if Lib.hasSuffix s [58] = true then (if nameB (Lib.trimSuffix s [58]) = true then .place (Lib.trimSuffix s [58]) else .bad)
  else if s = [] then .blank
  else if opOf (cutL 32 s).1 < 1 then .bad
  else match partsR (partsOf (opOf (cutL 32 s).1)) (wordsR s) ⟨opOf (cutL 32 s).1, 0, 0, 0, 0⟩ [] with
    | some p => .inst p.1 p.2
    | none => .bad
def lineR (s : List UInt8) : LineR := lineT (Lib.trimB s 32)
/-- A text so far: its instructions, where each leads, at which line it stands; its places. -/
structure TxS where
  l : List (Ins × List UInt8 × Nat)
  places : List (List UInt8 × Nat)
def findP (ps : List (List UInt8 × Nat)) (n : List UInt8) : Option Nat := (ps.find? (fun p => p.1 == n)).map (·.2)
def addR (s : List UInt8) (at_ : Nat) (t : TxS) : Except Int TxS := match lineR s with
  | .blank => .ok t
  | .place n => match findP t.places n with
    | some _ => .error 9
    | none => .ok { t with places := (n, t.l.length) :: t.places }
  | .inst x tgt => .ok { t with l := t.l ++ [(x, tgt, at_)] }
  | .bad => .error 3
def linesR : List (List UInt8) → Nat → TxS → Except (Int × Nat) TxS
  | [], _, t => .ok t
  | s :: r, i, t => match addR s i t with
    | .ok t => linesR r (i + 1) t
    | .error e => .error (e, i)
/-- An instruction of the text, its place filled in. -/
def aimed (ps : List (List UInt8 × Nat)) (y : Ins × List UInt8 × Nat) (i : Nat) : Except (Int × Nat) Ins :=
  if y.2.1 ≠ [] then match findP ps y.2.1 with
    | none => .error (7, y.2.2)
    | some k => if ({ y.1 with n := ((k : Int) - i) * 4 } : Ins).right = true then .ok { y.1 with n := ((k : Int) - i) * 4 } else .error (2, y.2.2)
  else if y.1.right = true then .ok y.1 else .error (2, y.2.2)
def outR (ps : List (List UInt8 × Nat)) : List (Ins × List UInt8 × Nat) → Nat → Except (Int × Nat) (List Ins)
  | [], _ => .ok []
  | y :: r, i => match aimed ps y i with
    | .error e => .error e
    | .ok x => match outR ps r (i + 1) with
      | .error e => .error e
      | .ok l => .ok (x :: l)
/-- What a text is. -/
def asmR (s : List UInt8) : Except (Int × Nat) (List Ins) := match linesR (splitL 10 s) 0 ⟨[], []⟩ with
  | .error e => .error e
  | .ok t => outR t.places t.l 0
/-! What is written is read so. -/
theorem hasSuffix_one (s : List UInt8) (c : UInt8) : Lib.hasSuffix s [c] = (s.getLast? == some c) := by
  unfold Lib.hasSuffix
  rw [Bool.eq_iff_iff, List.isSuffixOf_iff_suffix, beq_iff_eq]
  constructor
  · rintro ⟨t, rfl⟩
    simp
  · intro h
    obtain ⟨t, ht⟩ := List.getLast?_eq_some_iff.1 h
    exact ⟨t, ht.symm⟩
theorem trimSuffix_app (s : List UInt8) (c : UInt8) : Lib.trimSuffix (s ++ [c]) [c] = s := by
  unfold Lib.trimSuffix
  rw [hasSuffix_one]
  simp
theorem head_app {s t : List UInt8} (h : s ≠ []) : (s ++ t).head? = s.head? := by
  cases s with
  | nil => exact absurd rfl h
  | cons c r => rfl
theorem last_app {s t : List UInt8} (h : t ≠ []) : (s ++ t).getLast? = t.getLast? := by
  rw [List.getLast?_append]
  cases ht : t.getLast? with
  | none => exact absurd (List.getLast?_eq_none_iff.1 ht) h
  | some c => rfl
theorem drop_rep (a : Nat) (s : List UInt8) (h : s.head? ≠ some 32) : (List.replicate a (32 : UInt8) ++ s).dropWhile (· == 32) = s := by
  induction a with
  | zero =>
    cases s with
    | nil => rfl
    | cons c r =>
      have hc : (c == 32) = false := by simpa using h
      simp [List.dropWhile_cons, hc]
  | succ a ih =>
    rw [List.replicate_succ, List.cons_append, List.dropWhile_cons, if_pos (by rfl)]
    exact ih
theorem trimB_app (s : List UInt8) (h1 : s.head? ≠ some 32) (h2 : s.getLast? ≠ some 32) (a b : Nat) : Lib.trimB (List.replicate a 32 ++ s ++ List.replicate b 32) 32 = s := by
  unfold Lib.trimB Lib.trimRightB Lib.trimLeftB
  have e : (List.replicate a 32 ++ s ++ List.replicate b 32).reverse = List.replicate b (32 : UInt8) ++ (s.reverse ++ List.replicate a 32) := by simp
  rw [e]
  cases hs : s with
  | nil =>
    have : (List.replicate b (32 : UInt8) ++ ([].reverse ++ List.replicate a 32)).dropWhile (· == 32) = [] := by
      have e2 : List.replicate b (32 : UInt8) ++ ([].reverse ++ List.replicate a 32) = List.replicate (b + a) 32 ++ [] := by simp
      rw [e2, drop_rep _ [] (by simp)]
    rw [this]
    rfl
  | cons c r =>
    rw [← hs]
    have hne : s.reverse ≠ [] := by simp [hs]
    have hh : (s.reverse ++ List.replicate a (32 : UInt8)).head? ≠ some 32 := by
      rw [head_app hne, List.head?_reverse]
      exact h2
    rw [drop_rep b _ hh, List.reverse_append, List.reverse_reverse, List.reverse_replicate, drop_rep a s h1]
theorem trimB_none {s : List UInt8} (h : 32 ∉ s) : Lib.trimB s 32 = s := by
  have h1 : s.head? ≠ some 32 := fun e => h (List.mem_of_mem_head? e)
  have h2 : s.getLast? ≠ some 32 := fun e => h (List.mem_of_getLast? e)
  have := trimB_app s h1 h2 0 0
  simpa using this
/-- Pieces that hold no blank and no comma, and are there. -/
def Piece (w : List UInt8) : Prop := w ≠ [] ∧ 32 ∉ w ∧ 44 ∉ w ∧ 58 ∉ w ∧ 10 ∉ w
theorem num_piece (n : Int) : Piece (Lib.itoa n) ∧ 40 ∉ Lib.itoa n := by
  have h := itoa_num n
  rw [List.all_eq_true] at h
  have key : ∀ c : UInt8, numC c = false → c ∉ Lib.itoa n := fun c hc hm => by rw [h c hm] at hc; cases hc
  exact ⟨⟨itoa_ne n, key 32 rfl, key 44 rfl, key 58 rfl, key 10 rfl⟩, key 40 rfl⟩
theorem reg_piece (n : Int) : Piece (regT n) := by
  obtain ⟨⟨h1, h2, h3, h4, h5⟩, -⟩ := num_piece n
  refine ⟨by simp [regT], ?_, ?_, ?_, ?_⟩ <;> simp only [regT, List.mem_cons, not_or]
  · exact ⟨by decide, h2⟩
  · exact ⟨by decide, h3⟩
  · exact ⟨by decide, h4⟩
  · exact ⟨by decide, h5⟩
theorem piece_piece (x : Ins) (c : UInt8) : Piece (pieceT x c) := by
  unfold pieceT
  split
  · exact reg_piece _
  split
  · exact reg_piece _
  split
  · exact reg_piece _
  split
  · obtain ⟨⟨h1, h2, h3, h4, h5⟩, -⟩ := num_piece x.n
    obtain ⟨g1, g2, g3, g4, g5⟩ := reg_piece x.ra
    refine ⟨by simp, ?_, ?_, ?_, ?_⟩ <;> simp only [List.mem_append, List.mem_singleton, not_or]
    · exact ⟨⟨⟨h2, by decide⟩, g2⟩, by decide⟩
    · exact ⟨⟨⟨h3, by decide⟩, g3⟩, by decide⟩
    · exact ⟨⟨⟨h4, by decide⟩, g4⟩, by decide⟩
    · exact ⟨⟨⟨h5, by decide⟩, g5⟩, by decide⟩
  · exact (num_piece _).1
theorem split_join : (l : List (List UInt8)) → l ≠ [] → (∀ w ∈ l, 44 ∉ w) → splitL 44 (Lib.join l [44]) = l
  | [], h, _ => absurd rfl h
  | [w], _, h => by
    rw [Lib.join_one]
    exact splitL_none w (h w (by simp))
  | w :: v :: r, _, h => by
    have h1 := split_join (v :: r) (by simp) (fun u hu => h u (List.mem_cons_of_mem _ hu))
    rw [Lib.join_cons] at h1 ⊢
    have : w ++ Lib.joinTail [44] (v :: r) = w ++ 44 :: (v ++ Lib.joinTail [44] r) := by simp [Lib.joinTail]
    rw [this, splitL_app w _ (h w (by simp)), h1]
theorem join_none {c : UInt8} (hc : c ≠ 44) : (l : List (List UInt8)) → (∀ w ∈ l, c ∉ w) → c ∉ Lib.join l [44]
  | [], _ => by simp [Lib.join_nil]
  | [w], h => by rw [Lib.join_one]; exact h w (by simp)
  | w :: v :: r, h => by
    have h1 := join_none hc (v :: r) (fun u hu => h u (List.mem_cons_of_mem _ hu))
    rw [Lib.join_cons] at h1 ⊢
    have : w ++ Lib.joinTail [44] (v :: r) = w ++ 44 :: (v ++ Lib.joinTail [44] r) := by simp [Lib.joinTail]
    rw [this, List.mem_append, List.mem_cons, not_or, not_or]
    exact ⟨h w (by simp), hc, h1⟩
/-- What an op's parts are, by its kind. -/
theorem forms_tab : ∀ i : Fin 32, 1 ≤ i.val →
    (partsOf i.val = [100, 97, 98] ∧ kindOf i.val = 82) ∨ (partsOf i.val = [100, 97, 110] ∧ (kindOf i.val = 73 ∨ kindOf i.val = 72)) ∨ (partsOf i.val = [100, 109] ∧ kindOf i.val = 73) ∨ (partsOf i.val = [98, 109] ∧ kindOf i.val = 83) ∨
    (partsOf i.val = [97, 98, 116] ∧ kindOf i.val = 66) ∨ (partsOf i.val = [100, 110] ∧ kindOf i.val = 85) ∨ (partsOf i.val = [100, 116] ∧ kindOf i.val = 74) ∨ (partsOf i.val = [] ∧ kindOf i.val = 69) := by decide
theorem names_tab : ∀ i : Fin 32, 1 ≤ i.val → opOf (opName i.val) = i.val ∧ opName i.val ≠ [] ∧ (32 : UInt8) ∉ opName i.val ∧ (58 : UInt8) ∉ opName i.val ∧ (10 : UInt8) ∉ opName i.val := by decide
theorem op_fin {op : Int} (h1 : 1 ≤ op) (h2 : op ≤ 31) : ∃ i : Fin 32, op = (i.val : Int) ∧ 1 ≤ i.val := ⟨⟨op.toNat, by omega⟩, by simp; omega, by simp; omega⟩
theorem fitB_in {n h o : Int} (hf : fitB n h o = true) : -h ≤ n ∧ n < h := by
  unfold fitB at hf
  simp only [Bool.and_eq_true, decide_eq_true_eq] at hf
  exact hf.1
theorem parts_read {x : Ins} (hx : x.right = true) : partsR (partsOf x.op) ((partsOf x.op).map (pieceT x)) ⟨x.op, 0, 0, 0, 0⟩ [] = some (x, []) := by
  obtain ⟨⟨h1, h2⟩, hd, ha, hb, hbody⟩ := right_parts hx
  obtain ⟨i, hi, hi1⟩ := op_fin h1 h2
  have hform := forms_tab i hi1
  rw [← hi] at hform
  obtain ⟨op, rd, ra, rb, n⟩ := x
  simp only at h1 h2 hd ha hb hbody hform hi ⊢
  have rD := regR_regT hd.1 hd.2
  have rA := regR_regT ha.1 ha.2
  have rB := regR_regT hb.1 hb.2
  have hm : ∀ (k : Int), -9223372036854775808 ≤ k → k ≤ 9223372036854775807 → partR 109 (Lib.itoa k ++ [40] ++ regT ra ++ [41]) = fun x tgt => some ({ x with n := k, ra := ra }, tgt) := by
    intro k hk1 hk2
    funext x tgt
    unfold partR
    rw [if_neg (by decide), if_neg (by decide), if_neg (by decide), if_pos rfl]
    have e : Lib.itoa k ++ [40] ++ regT ra ++ [41] = (Lib.itoa k ++ 40 :: regT ra) ++ [41] := by simp
    rw [e, trimSuffix_app, cutL_app (num_piece k).2, hasSuffix_one]
    simp only [numR_itoa hk1 hk2, rA]
    rw [last_app (by simp)]
    simp
  rcases hform with ⟨hp, hk⟩ | ⟨hp, hk⟩ | ⟨hp, hk⟩ | ⟨hp, hk⟩ | ⟨hp, hk⟩ | ⟨hp, hk⟩ | ⟨hp, hk⟩ | ⟨hp, hk⟩
  · rw [hk] at hbody
    rw [hp]
    simp only [bodyB, if_true, beq_iff_eq] at hbody
    subst hbody
    simp [partsR, partR, pieceT, rD, rA, rB]
  · have hn : (rb = 0) ∧ -9223372036854775808 ≤ n ∧ n ≤ 9223372036854775807 := by
      rcases hk with hk | hk
      · rw [hk] at hbody
        simp [bodyB] at hbody
        have := fitB_in hbody.2
        exact ⟨hbody.1, by omega, by omega⟩
      · rw [hk] at hbody
        simp [bodyB] at hbody
        exact ⟨hbody.1.1, by omega, by omega⟩
    obtain ⟨rfl, n1, n2⟩ := hn
    rw [hp]
    simp [partsR, partR, pieceT, rD, rA, numR_itoa n1 n2]
  · rw [hk] at hbody
    simp [bodyB] at hbody
    obtain ⟨rfl, hf⟩ := hbody
    have := fitB_in hf
    rw [hp]
    have h := hm n (by omega) (by omega)
    simp only [List.map_cons, List.map_nil, partsR]
    have e1 : pieceT ⟨op, rd, ra, 0, n⟩ 100 = regT rd := rfl
    have e2 : pieceT ⟨op, rd, ra, 0, n⟩ 109 = Lib.itoa n ++ [40] ++ regT ra ++ [41] := rfl
    rw [e1, e2, h]
    simp [partR, rD]
  · rw [hk] at hbody
    simp [bodyB] at hbody
    obtain ⟨rfl, hf⟩ := hbody
    have := fitB_in hf
    rw [hp]
    have h := hm n (by omega) (by omega)
    simp only [List.map_cons, List.map_nil, partsR]
    have e1 : pieceT ⟨op, 0, ra, rb, n⟩ 98 = regT rb := rfl
    have e2 : pieceT ⟨op, 0, ra, rb, n⟩ 109 = Lib.itoa n ++ [40] ++ regT ra ++ [41] := rfl
    rw [e1, e2, h]
    simp [partR, rB]
  · rw [hk] at hbody
    simp [bodyB] at hbody
    obtain ⟨rfl, hf⟩ := hbody
    have := fitB_in hf
    rw [hp]
    simp [partsR, partR, pieceT, rA, rB, numR_itoa (show -9223372036854775808 ≤ n by omega) (by omega)]
  · rw [hk] at hbody
    simp [bodyB] at hbody
    obtain ⟨⟨rfl, rfl⟩, hf⟩ := hbody
    have := fitB_in hf
    rw [hp]
    simp [partsR, partR, pieceT, rD, numR_itoa (show -9223372036854775808 ≤ n by omega) (by omega)]
  · rw [hk] at hbody
    simp [bodyB] at hbody
    obtain ⟨⟨rfl, rfl⟩, hf⟩ := hbody
    have := fitB_in hf
    rw [hp]
    simp [partsR, partR, pieceT, rD, numR_itoa (show -9223372036854775808 ≤ n by omega) (by omega)]
  · rw [hk] at hbody
    simp [bodyB] at hbody
    obtain ⟨⟨⟨rfl, rfl⟩, rfl⟩, rfl⟩ := hbody
    rw [hp]
    simp [partsR]
/-- What is written has no line's end, no colon, and no blank at its ends. -/
theorem print_clean {x : Ins} (hx : x.right = true) : 10 ∉ printB x ∧ 58 ∉ printB x ∧ (printB x).head? ≠ some 32 ∧ (printB x).getLast? ≠ some 32 ∧ printB x ≠ [] := by
  obtain ⟨⟨h1, h2⟩, -⟩ := right_parts hx
  obtain ⟨i, hi, hi1⟩ := op_fin h1 h2
  have hn := names_tab i hi1
  rw [← hi] at hn
  obtain ⟨-, n0, n1, n2, n3⟩ := hn
  unfold printB
  split
  · exact ⟨n3, n2, fun e => n1 (List.mem_of_mem_head? e), fun e => n1 (List.mem_of_getLast? e), n0⟩
  · rename_i hp
    have hpc : ∀ w ∈ (partsOf x.op).map (pieceT x), Piece w := by
      intro w hw
      obtain ⟨c, -, rfl⟩ := List.mem_map.1 hw
      exact piece_piece x c
    have j10 := join_none (c := 10) (by decide) _ (fun w hw => (hpc w hw).2.2.2.2)
    have j58 := join_none (c := 58) (by decide) _ (fun w hw => (hpc w hw).2.2.2.1)
    have j32 := join_none (c := 32) (by decide) _ (fun w hw => (hpc w hw).2.1)
    have jne : Lib.join ((partsOf x.op).map (pieceT x)) [44] ≠ [] := by
      cases hq : partsOf x.op with
      | nil => exact absurd hq hp
      | cons c r =>
        rw [List.map_cons, Lib.join_cons]
        have := (piece_piece x c).1
        intro e
        exact this (List.append_eq_nil_iff.1 e).1
    refine ⟨?_, ?_, ?_, ?_, by simp⟩
    · simp only [List.mem_append, List.mem_singleton, not_or]
      exact ⟨⟨n3, by decide⟩, j10⟩
    · simp only [List.mem_append, List.mem_singleton, not_or]
      exact ⟨⟨n2, by decide⟩, j58⟩
    · rw [List.append_assoc, head_app n0]
      exact fun e => n1 (List.mem_of_mem_head? e)
    · rw [last_app jne]
      exact fun e => j32 (List.mem_of_getLast? e)
theorem lineT_print {x : Ins} (hx : x.right = true) : lineT (printB x) = .inst x [] := by
  obtain ⟨c10, c58, -, -, cne⟩ := print_clean hx
  obtain ⟨⟨h1, h2⟩, -⟩ := right_parts hx
  obtain ⟨i, hi, hi1⟩ := op_fin h1 h2
  have hn := names_tab i hi1
  rw [← hi] at hn
  obtain ⟨n9, n0, n1, n2, n3⟩ := hn
  have hs : Lib.hasSuffix (printB x) [58] = false := by
    rw [hasSuffix_one]
    simp only [beq_eq_false_iff_ne]
    exact fun e => c58 (List.mem_of_getLast? e)
  have key : (cutL 32 (printB x)).1 = opName x.op ∧ wordsR (printB x) = (partsOf x.op).map (pieceT x) := by
    unfold printB
    split
    · rename_i hp
      unfold wordsR
      rw [cutL_none n1, hp]
      exact ⟨rfl, rfl⟩
    · rename_i hp
      have hpc : ∀ w ∈ (partsOf x.op).map (pieceT x), Piece w := by
        intro w hw
        obtain ⟨c, -, rfl⟩ := List.mem_map.1 hw
        exact piece_piece x c
      have j32 := join_none (c := 32) (by decide) _ (fun w hw => (hpc w hw).2.1)
      have e : opName x.op ++ [32] ++ Lib.join ((partsOf x.op).map (pieceT x)) [44] = opName x.op ++ 32 :: Lib.join ((partsOf x.op).map (pieceT x)) [44] := by simp
      unfold wordsR
      rw [e, cutL_app n1]
      refine ⟨rfl, ?_⟩
      simp only [if_true]
      rw [trimB_none j32, split_join _ (by simpa using hp) (fun w hw => (hpc w hw).2.2.1)]
  unfold lineT
  rw [hs, if_neg (by simp), if_neg cne, key.1, key.2, n9]
  rw [if_neg (by omega)]
  rw [parts_read hx]
theorem lineR_print {x : Ins} (hx : x.right = true) (a b : Nat) : lineR (List.replicate a 32 ++ printB x ++ List.replicate b 32) = .inst x [] := by
  obtain ⟨-, -, c1, c2, -⟩ := print_clean hx
  unfold lineR
  rw [trimB_app _ c1 c2, lineT_print hx]
theorem lineR_blank (a : Nat) : lineR (List.replicate a 32) = .blank := by
  have := trimB_app [] (by simp) (by simp) a 0
  simp only [List.append_nil, List.replicate_zero] at this
  unfold lineR
  rw [this]
  rfl
end Go.Proofs.YtodgkbcgdbhpeaaGreatDoor.AsmP
