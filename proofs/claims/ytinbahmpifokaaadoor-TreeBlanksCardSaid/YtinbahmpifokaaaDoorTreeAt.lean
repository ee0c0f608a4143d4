/- The parser of tree as it lies in memory: its tokens. No conditions. -/
import Derived.Test.YtinbahmpifokaaaDoorRows
import Derived.Test.YtinbahmpifokaaaDoorMods
import Derived.Test.YtinbahmpifokaaaDoorTreePlain
import Derived.WalkKit
import Derived.ProofKit
import Derived.WalkSpells
import Derived.WalkLawsBesides
import Derived.Lib.Hide
import Derived.RegionTactic
import Derived.Deep.RegionHeld3
import Derived.Outline
import Derived.IntWalk
namespace Go.Proofs.YtinbahmpifokaaaDoor.TreeP
open Go.RowKit Go.Proofs.YtinbahmpifokaaaDoor.Wo
set_option linter.unusedVariables false
set_option linter.unusedSimpArgs false
def str (l : List UInt8) : Value := .string ⟨l.toArray⟩
/-- Tokens lie one behind the other. -/
def ToksAt (W : World) (g o : Nat) (ts : List Tok) : Prop :=
  ∀ (i : Nat) (t : Tok), ts[i]? = some t → W.cell? ⟨g, o + i * 3, none⟩ = some (.int .i64 t.kind) ∧ W.cell? ⟨g, o + i * 3 + 1, none⟩ = some (str t.text) ∧ W.cell? ⟨g, o + i * 3 + 2, none⟩ = some (.int .i64 t.at_)
theorem ToksAt.mods {S : Nat → Prop} {W W' : World} {g o : Nat} {ts : List Tok} (h : ToksAt W g o ts) (hm : Mods S W W') (hn : ¬ S g) : ToksAt W' g o ts := fun i t ht =>
  ⟨hm.cellOf (h i t ht).1 hn, hm.cellOf (h i t ht).2.1 hn, hm.cellOf (h i t ht).2.2 hn⟩
theorem ToksAt.tail {W : World} {g o : Nat} {t : Tok} {ts : List Tok} (h : ToksAt W g o (t :: ts)) : ToksAt W g (o + 3) ts := fun i u hu => by
  have := h (i + 1) u (by simpa using hu)
  rw [show o + 3 + i * 3 = o + (i + 1) * 3 by omega]
  exact this
/-- The last token is the end. -/
def Ends (ts : List Tok) : Prop := ∃ a, ts.getLast? = some ⟨4, [], a⟩
theorem Ends.ne {ts : List Tok} (h : Ends ts) : ts ≠ [] := by rintro rfl; obtain ⟨a, h⟩ := h; simp at h
theorem Ends.tail {t : Tok} {ts : List Tok} (h : Ends (t :: ts)) (hk : t.kind ≠ 4) : Ends ts := by
  obtain ⟨a, h⟩ := h
  cases ts with
  | nil => simp at h; rw [h] at hk; exact absurd rfl hk
  | cons u us => exact ⟨a, by simpa using h⟩
/-- The parser at b: its tokens, the last one the end. -/
structure PAt (W : World) (b g o c : Nat) (ts : List Tok) : Prop where
  blk : Blk W b [.slice (some ⟨g, o, none⟩) ts.length c] 45
  cap : ts.length ≤ c
  max : c ≤ 9223372036854775807
  len : ts.length ≤ 10000000
  lt : g < b
  toks : ToksAt W g o ts
  ends : Ends ts
  small : ∀ t ∈ ts, t.text.length ≤ 10000000
  nums : ∀ t ∈ ts, t.kind = 2 → t.text ≠ [] ∧ t.text.all digitB = true
def Par (W : World) (b : Nat) (ts : List Tok) : Prop := ∃ g o c, PAt W b g o c ts
theorem PAt.mods {S : Nat → Prop} {W W' : World} {b g o c : Nat} {ts : List Tok} (h : PAt W b g o c ts) (hm : Mods S W W') (hb : ¬ S b) (hg : ¬ S g) : PAt W' b g o c ts :=
  ⟨h.blk.mods hm hb, h.cap, h.max, h.len, h.lt, h.toks.mods hm hg, h.ends, h.small, h.nums⟩
theorem Par.mods {W W' : World} {b : Nat} {ts : List Tok} (h : Par W b ts) (hm : Mods None W W') : Par W' b ts := by
  obtain ⟨g, o, c, h⟩ := h
  exact ⟨g, o, c, h.mods hm (fun f => f) (fun f => f)⟩
theorem Par.far {W W' : World} {b : Nat} {ts : List Tok} {T : Nat → Prop} (h : Par W b ts) (hm : Mods T W W') (hT : ∀ k, T k → b < k) : Par W' b ts := by
  obtain ⟨g, o, c, h⟩ := h
  exact ⟨g, o, c, h.mods hm (fun f => Nat.lt_irrefl _ (hT _ f)) (fun f => Nat.lt_asymm h.lt (hT _ f))⟩
theorem Par.ends {W : World} {b : Nat} {ts : List Tok} (h : Par W b ts) : Ends ts := by
  obtain ⟨g, o, c, h⟩ := h; exact h.ends
theorem PAt.tail {W : World} {b g o c : Nat} {t : Tok} {ts : List Tok} (h : PAt W b g o c (t :: ts)) (hk : t.kind ≠ 4) : PAt (W.setCell ⟨b, 0, none⟩ (.slice (some ⟨g, o + 3, none⟩) ts.length (c - 1))) b g (o + 3) (c - 1) ts := by
  have hm : Mods (· = b) W (W.setCell ⟨b, 0, none⟩ (.slice (some ⟨g, o + 3, none⟩) ts.length (c - 1))) := Mods.setCell (S := (· = b)) (p := ⟨b, 0, none⟩) (Mods.refl _ _) (fun _ => rfl) _
  have hc := h.cap
  simp only [List.length_cons] at hc
  exact ⟨h.blk.set 0 _, by omega, by have := h.max; omega, by have := h.len; simp only [List.length_cons] at this; omega, h.lt, h.toks.tail.mods hm (Nat.ne_of_lt h.lt), h.ends.tail hk, fun u hu => h.small u (List.mem_cons_of_mem _ hu), fun u hu => h.nums u (List.mem_cons_of_mem _ hu)⟩
section
variable {W : World} {b g o c : Nat} {t : Tok} {ts : List Tok}
theorem PAt.cl (h : PAt W b g o c (t :: ts)) : W.cell? ⟨b, 0, none⟩ = some (.slice (some ⟨g, o, none⟩) (ts.length + 1) c) := h.blk.cell rfl
theorem PAt.ck (h : PAt W b g o c (t :: ts)) : W.cell? ⟨g, o, none⟩ = some (.int .i64 t.kind) := (h.toks 0 t rfl).1
theorem PAt.ct (h : PAt W b g o c (t :: ts)) : W.cell? ⟨g, o + 1, none⟩ = some (.string ⟨t.text.toArray⟩) := (h.toks 0 t rfl).2.1
theorem PAt.ca (h : PAt W b g o c (t :: ts)) : W.cell? ⟨g, o + 2, none⟩ = some (.int .i64 t.at_) := (h.toks 0 t rfl).2.2
end
theorem ends_cons {ts : List Tok} (h : Ends ts) : ∃ t r, ts = t :: r := by
  cases ts with
  | nil => exact absurd rfl h.ne
  | cons t r => exact ⟨t, r, rfl⟩
set_option maxRecDepth 100000 in
set_option maxHeartbeats 400000 in
theorem see_any (b : Nat) (s : List UInt8) (ts : List Tok) (W : World) (h : Par W b ts) :
    Calls Tryd.prog 36 #[.pointer (some ⟨b, 0, none⟩), str s] W fun e W' => e = .returned (.bool (seeB s ts)) ∧ W = W' := by
  obtain ⟨g, o, c, h⟩ := h
  obtain ⟨t, r, rfl⟩ := ends_cons h.ends
  have hl := h.cl
  have hk := h.ck
  have ht := h.ct
  have hcap := h.cap
  have hmax := h.max
  simp only [List.length_cons] at hcap
  obtain ⟨tk, tt, ta⟩ := t
  simp only at hk ht
  unfold str
  have HS : seeB s (⟨tk, tt, ta⟩ :: r) = (tt == s && tk != 4) := rfl
  rw [HS]
  clear h HS
  cases hq : (tt == s)
  all_goals
    go_enter Tryd.func36, Tryd.ntmps36
    go_wp2
    go_ret
    exact ⟨rfl, rfl⟩
theorem see_cons {s : List UInt8} {ts : List Tok} (h : seeB s ts = true) (he : Ends ts) : ∃ t r, ts = t :: r ∧ t.kind ≠ 4 := by
  obtain ⟨t, r, rfl⟩ := ends_cons he
  refine ⟨t, r, rfl, ?_⟩
  simp only [seeB, headKind, List.head?_cons, Option.map_some, Option.getD_some, Bool.and_eq_true, bne_iff_ne, ne_eq] at h
  exact h.2
theorem take_no (b : Nat) (s : List UInt8) (ts : List Tok) (W : World) (h : Par W b ts) (hs : seeB s ts = false) :
    Calls Tryd.prog 23 #[.pointer (some ⟨b, 0, none⟩), str s] W fun e W' => e = .returned (.bool false) ∧ W = W' := by
  have HS := see_any b s ts W h
  rw [hs] at HS
  unfold str at HS ⊢
  have H := Lib.hid HS
  clear h hs HS
  go_enter Tryd.func23, Tryd.ntmps23
  go_wp2_with (go_at_call 36; refine H.out.mono ?_; rintro e w' ⟨rfl, rfl⟩)
  go_ret
  exact ⟨rfl, rfl⟩
/-- The next token is passed by. -/
def Passed (W : World) (b : Nat) (ts : List Tok) (W' : World) : Prop := Par W' b ts.tail ∧ Mods (· = b) W W'
set_option maxRecDepth 100000 in
theorem take_yes (b : Nat) (s : List UInt8) (ts : List Tok) (W : World) (h : Par W b ts) (hs : seeB s ts = true) :
    Calls Tryd.prog 23 #[.pointer (some ⟨b, 0, none⟩), str s] W fun e W' => e = .returned (.bool true) ∧ Passed W b ts W' := by
  have HS := see_any b s ts W h
  rw [hs] at HS
  unfold str at HS ⊢
  have H := Lib.hid HS
  obtain ⟨t, r, rfl, hk⟩ := see_cons hs h.ends
  obtain ⟨g, o, c, h⟩ := h
  have hl := h.cl
  have hcap := h.cap
  have hmax := h.max
  simp only [List.length_cons] at hcap
  have hf := h.blk.free 0
  have hr : 1 ≤ r.length := by
    have := (h.ends.tail hk).ne
    cases r with
    | nil => exact absurd rfl this
    | cons _ _ => simp
  have HT := Lib.hid (h.tail hk)
  clear h hs HS hk
  go_enter Tryd.func23, Tryd.ntmps23
  go_wp2_with (go_at_call 36; refine H.out.mono ?_; rintro e w' ⟨rfl, rfl⟩)
  go_ret
  exact ⟨rfl, ⟨_, _, _, HT.out⟩, Mods.setCell (S := (· = b)) (p := ⟨b, 0, none⟩) (Mods.refl _ _) (fun _ => rfl) _⟩
/-- The value that is thrown. -/
def wrongV (g : Nat) : Value := .iface 38 (.agg #[.iface 72 (.pointer (some ⟨g, 0, none⟩))])
/-- It has thrown: an error, at a place. -/
def Threw (S : Nat → Prop) (W : World) (n a : Int) (e : Ending) (W' : World) : Prop :=
  ∃ g, e = .panicked [{ v := wrongV g, recovered := false }] ∧ Blk W' g [.int .i64 n, .int .i64 a] 74 ∧ Mods S W W'
set_option maxRecDepth 100000 in
theorem fail_any (b : Nat) (n : Int) (ts : List Tok) (W : World) (h : Par W b ts) :
    Calls Tryd.prog 13 #[.pointer (some ⟨b, 0, none⟩), .int .i64 n] W (Threw None W n (headAt ts)) := by
  obtain ⟨g, o, c, h⟩ := h
  obtain ⟨t, r, rfl⟩ := ends_cons h.ends
  have hl := h.cl
  have ha := h.ca
  have hcap := h.cap
  have hmax := h.max
  simp only [List.length_cons] at hcap
  clear h
  go_enter Tryd.func13, Tryd.ntmps13
  go_wp2
  exact ⟨rfl, _, rfl, Blk.new W _ _, (Mods.refl _ _).alloc _⟩
theorem Threw.mono {S T : Nat → Prop} {W : World} {n a : Int} {e : Ending} {W' : World} (h : Threw S W n a e W') (hs : ∀ k, S k → T k) : Threw T W n a e W' := by
  obtain ⟨g, h1, h2, h3⟩ := h
  exact ⟨g, h1, h2, h3.mono fun k _ hk => hs k hk⟩
theorem Threw.after {S : Nat → Prop} {W W1 : World} {n a : Int} {e : Ending} {W' : World} (hm : Mods S W W1) (h : Threw S W1 n a e W') : Threw S W n a e W' := by
  obtain ⟨g, h1, h2, h3⟩ := h
  exact ⟨g, h1, h2, hm.trans h3⟩
theorem must_yes (b : Nat) (s : List UInt8) (ts : List Tok) (W : World) (h : Par W b ts) (hs : seeB s ts = true) :
    Calls Tryd.prog 21 #[.pointer (some ⟨b, 0, none⟩), str s] W fun e W' => e = .returned (.tuple #[]) ∧ Passed W b ts W' := by
  have H := Lib.hid (take_yes b s ts W h hs)
  unfold str at H ⊢
  clear h hs
  go_enter Tryd.func21, Tryd.ntmps21
  go_wp2_with (go_at_call 23; refine H.out.mono ?_; rintro e w' ⟨rfl, hp⟩)
  go_end0
  exact ⟨rfl, hp⟩
theorem must_no (b : Nat) (s : List UInt8) (ts : List Tok) (W : World) (h : Par W b ts) (hs : seeB s ts = false) :
    Calls Tryd.prog 21 #[.pointer (some ⟨b, 0, none⟩), str s] W (Threw None W 3 (headAt ts)) := by
  have H := Lib.hid (take_no b s ts W h hs)
  have HF := Lib.hid (fail_any b 3 ts W h)
  unfold str at H ⊢
  clear h hs
  go_enter Tryd.func21, Tryd.ntmps21
  go_wp2_with (first | (go_at_call 23; refine H.out.mono ?_; rintro e w' ⟨rfl, rfl⟩) | (go_at_call 13; refine HF.out.mono ?_; rintro e w' ⟨g, rfl, hb, hm⟩))
  exact ⟨rfl, g, rfl, hb, hm⟩
end Go.Proofs.YtinbahmpifokaaaDoor.TreeP
