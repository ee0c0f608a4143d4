/- Expressions as they lie in memory, apart from some blocks. No conditions. -/
import Derived.Test.YtinbahmpifokaaaDoorTreeOp
import Derived.Lib.SmallJoins
namespace Go.Proofs.YtinbahmpifokaaaDoor.TreeP
open Go.RowKit Go.Proofs.YtinbahmpifokaaaDoor.Wo
set_option linter.unusedVariables false
set_option linter.unusedSimpArgs false
/-- A slice of these cells, apart from some blocks. -/
def RowAt (W : World) (S : Nat → Prop) (e : TypeId) (size : Nat) (x : Value) (n : Nat) (vs : List Value) : Prop :=
  W.ownsRow 0 e size x n vs ∧ ∀ k, x.ownBlock = some k → ¬ S k
theorem RowAt.mods {W W' : World} {S T : Nat → Prop} {e : TypeId} {size n : Nat} {x : Value} {vs : List Value} (h : RowAt W S e size x n vs) (hm : Mods S W W') (hT : ∀ k, k < W.heap.size → T k → S k) : RowAt W' T e size x n vs :=
  ⟨hm.ownsRow h.1 h.2, fun k hk ht => h.2 k hk (hT k (h.1.lt k hk).2 ht)⟩
/-- A struct of an expression's cells: its code, where, its number, name, mark, left, right, arguments. -/
def cells8 (code a n : Int) (name op : List UInt8) (l r args : Value) : List Value := [.int .i64 code, .int .i64 a, .int .i64 n, str name, str op, l, r, args]
def nilP : Value := .pointer none
def nilS : Value := .slice none 0 0
def Node (W : World) (S : Nat → Prop) (v : Value) (cs : List Value) : Prop := ∃ g, v = .pointer (some ⟨g, 0, none⟩) ∧ ¬ S g ∧ Blk W g cs 101
theorem Node.mods {W W' : World} {S T : Nat → Prop} {x : Value} {cs : List Value} (h : Node W S x cs) (hm : Mods S W W') (hT : ∀ k, k < W.heap.size → T k → S k) : Node W' T x cs := by
  obtain ⟨g, h1, h2, h3⟩ := h
  exact ⟨g, h1, fun ht => h2 (hT g h3.lt ht), h3.mods hm h2⟩
mutual
def ExAt (W : World) (S : Nat → Prop) : Ex → Value → Prop
  | .num a n, v => Node W S v (cells8 1 a n [] [] nilP nilP nilS)
  | .var a s, v => Node W S v (cells8 2 a 0 s [] nilP nilP nilS)
  | .bin a op l r, v => ∃ x y, Node W S v (cells8 3 a 0 [] op x y nilS) ∧ ExAt W S l x ∧ ExAt W S r y
  | .un a op l, v => ∃ x, Node W S v (cells8 4 a 0 [] op x nilP nilS) ∧ ExAt W S l x
  | .call a f l, v => ∃ x vs, Node W S v (cells8 5 a 0 f [] nilP nilP x) ∧ RowAt W S 78 1 x l.length vs ∧ ExsAt W S l vs
  | .new a l, v => ∃ x, Node W S v (cells8 6 a 0 [] [] x nilP nilS) ∧ ExAt W S l x
  | .len a l, v => ∃ x, Node W S v (cells8 7 a 0 [] [] x nilP nilS) ∧ ExAt W S l x
  | .item a l r, v => ∃ x y, Node W S v (cells8 8 a 0 [] [] x y nilS) ∧ ExAt W S l x ∧ ExAt W S r y
  | .input a, v => Node W S v (cells8 9 a 0 [] [] nilP nilP nilS)
def ExsAt (W : World) (S : Nat → Prop) : List Ex → List Value → Prop
  | [], vs => vs = []
  | e :: l, vs => ∃ x r, vs = x :: r ∧ ExAt W S e x ∧ ExsAt W S l r
end
mutual
theorem ExAt.modsTo {W W' : World} {S T : Nat → Prop} (hm : Mods S W W') (hT : ∀ k, k < W.heap.size → T k → S k) : (e : Ex) → (v : Value) → ExAt W S e v → ExAt W' T e v
  | .num a n, v, h => Node.mods (by simpa only [ExAt] using h) hm hT |> (by simp only [ExAt]; exact ·)
  | .var a s, v, h => Node.mods (by simpa only [ExAt] using h) hm hT |> (by simp only [ExAt]; exact ·)
  | .bin a op l r, v, h => by
    simp only [ExAt] at h ⊢
    obtain ⟨x, y, h1, h2, h3⟩ := h
    exact ⟨x, y, h1.mods hm hT, ExAt.modsTo hm hT l x h2, ExAt.modsTo hm hT r y h3⟩
  | .un a op l, v, h => by
    simp only [ExAt] at h ⊢
    obtain ⟨x, h1, h2⟩ := h
    exact ⟨x, h1.mods hm hT, ExAt.modsTo hm hT l x h2⟩
  | .call a f l, v, h => by
    simp only [ExAt] at h ⊢
    obtain ⟨x, vs, h1, h2, h3⟩ := h
    exact ⟨x, vs, h1.mods hm hT, h2.mods hm hT, ExsAt.modsTo hm hT l vs h3⟩
  | .new a l, v, h => by
    simp only [ExAt] at h ⊢
    obtain ⟨x, h1, h2⟩ := h
    exact ⟨x, h1.mods hm hT, ExAt.modsTo hm hT l x h2⟩
  | .len a l, v, h => by
    simp only [ExAt] at h ⊢
    obtain ⟨x, h1, h2⟩ := h
    exact ⟨x, h1.mods hm hT, ExAt.modsTo hm hT l x h2⟩
  | .item a l r, v, h => by
    simp only [ExAt] at h ⊢
    obtain ⟨x, y, h1, h2, h3⟩ := h
    exact ⟨x, y, h1.mods hm hT, ExAt.modsTo hm hT l x h2, ExAt.modsTo hm hT r y h3⟩
  | .input a, v, h => Node.mods (by simpa only [ExAt] using h) hm hT |> (by simp only [ExAt]; exact ·)
theorem ExsAt.modsTo {W W' : World} {S T : Nat → Prop} (hm : Mods S W W') (hT : ∀ k, k < W.heap.size → T k → S k) : (l : List Ex) → (vs : List Value) → ExsAt W S l vs → ExsAt W' T l vs
  | [], vs, h => by simp only [ExsAt] at h ⊢; exact h
  | e :: l, vs, h => by
    simp only [ExsAt] at h ⊢
    obtain ⟨x, r, h1, h2, h3⟩ := h
    exact ⟨x, r, h1, ExAt.modsTo hm hT e x h2, ExsAt.modsTo hm hT l r h3⟩
end
theorem ExAt.mods {W W' : World} {S : Nat → Prop} {e : Ex} {v : Value} (h : ExAt W S e v) (hm : Mods S W W') : ExAt W' S e v := ExAt.modsTo hm (fun _ _ k => k) e v h
theorem ExAt.ptr {W : World} {S : Nat → Prop} {e : Ex} {v : Value} (h : ExAt W S e v) : ∃ g, v = .pointer (some ⟨g, 0, none⟩) := by
  have key : ∀ cs, Node W S v cs → ∃ g, v = .pointer (some ⟨g, 0, none⟩) := fun cs h => by
    obtain ⟨g, h1, _⟩ := h
    exact ⟨g, h1⟩
  cases e <;> simp only [ExAt] at h
  case num => exact key _ h
  case var => exact key _ h
  case bin => obtain ⟨x, y, h, _⟩ := h; exact key _ h
  case un => obtain ⟨x, h, _⟩ := h; exact key _ h
  case call => obtain ⟨x, y, h, _⟩ := h; exact key _ h
  case new => obtain ⟨x, h, _⟩ := h; exact key _ h
  case len => obtain ⟨x, h, _⟩ := h; exact key _ h
  case item => obtain ⟨x, y, h, _⟩ := h; exact key _ h
  case input => exact key _ h
theorem ExsAt.append {W : World} {S : Nat → Prop} {e : Ex} {v : Value} : {l : List Ex} → {vs : List Value} → ExsAt W S l vs → ExAt W S e v → ExsAt W S (l ++ [e]) (vs ++ [v])
  | [], vs, h, he => by
    simp only [ExsAt] at h
    subst h
    simp only [List.nil_append, ExsAt]
    exact ⟨v, [], rfl, he, rfl⟩
  | a :: l, vs, h, he => by
    simp only [ExsAt] at h
    obtain ⟨x, r, rfl, h2, h3⟩ := h
    simp only [List.cons_append, ExsAt]
    exact ⟨x, r ++ [v], rfl, h2, ExsAt.append h3 he⟩
/-- A struct that is laid anew. -/
theorem Node.new {S : Nat → Prop} {W : World} (hS : ∀ k, S k → k < W.heap.size) (cs : Array Value) : Node (W.alloc (.cells cs 101)) S (.pointer (some ⟨W.heap.size, 0, none⟩)) cs.toList :=
  ⟨_, rfl, fun h => absurd (hS _ h) (Nat.lt_irrefl _), Blk.new W cs _⟩
end Go.Proofs.YtinbahmpifokaaaDoor.TreeP
