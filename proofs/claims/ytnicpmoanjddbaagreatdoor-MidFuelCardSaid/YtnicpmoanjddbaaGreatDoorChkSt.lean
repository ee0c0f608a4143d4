/- The checker's look at statements. Conditions: its functions, names, and the statements lie. -/
import Derived.Test.YtnicpmoanjddbaaGreatDoorChkExpr
namespace Go.Proofs.YtnicpmoanjddbaaGreatDoor.TreeP
open Go.RowKit Go.Proofs.YtnicpmoanjddbaaGreatDoor.Wo
set_option linter.unusedVariables false
set_option linter.unusedSimpArgs false
def blockK (L : List Fn) (N : Nm) (m : Nat) (l : List St) : CK (Nm × Nat) := bindK (stmtsK L N m l) fun x => .ok (N, x.2)
theorem addN_mono {N N' : Nm} {m m' : Nat} {p : List UInt8 × Int} {a : Int} (h : addN N m p a = .ok (N', m')) : m ≤ m' := by
  unfold addN at h
  split at h
  · cases h
  · split at h
    · cases h
    · cases h; omega
theorem bindK_ok {α β : Type} {x : CK α} {f : α → CK β} {y : β} (h : bindK x f = .ok y) : ∃ a, x = .ok a ∧ f a = .ok y := by
  cases x with
  | error e => cases h
  | ok a => exact ⟨a, rfl, h⟩
mutual
theorem stmtK_mono (L : List Fn) : (s : St) → (N N' : Nm) → (m m' : Nat) → stmtK L N m s = .ok (N', m') → m ≤ m'
  | .var a s v, N, N', m, m', h => by
    simp only [stmtK] at h
    obtain ⟨t, _, h2⟩ := bindK_ok h
    exact addN_mono h2
  | .set a s v, N, N', m, m', h => by
    simp only [stmtK] at h
    split at h
    · cases h
    · obtain ⟨t, _, h2⟩ := bindK_ok h
      cases h2; omega
  | .put a s i v, N, N', m, m', h => by
    simp only [stmtK] at h
    split at h
    · cases h
    · split at h
      · cases h
      · obtain ⟨t, _, h2⟩ := bindK_ok h
        obtain ⟨t, _, h2⟩ := bindK_ok h2
        cases h2; omega
  | .cond a v t e, N, N', m, m', h => by
    simp only [stmtK] at h
    obtain ⟨_, _, h2⟩ := bindK_ok h
    obtain ⟨x, h3, h4⟩ := bindK_ok h2
    obtain ⟨y, h5, h6⟩ := bindK_ok h4
    cases h6
    have := stmtsK_mono L t N x.1 m x.2 h3
    have := stmtsK_mono L e N y.1 x.2 y.2 h5
    omega
  | .loop a v t, N, N', m, m', h => by
    simp only [stmtK] at h
    obtain ⟨_, _, h2⟩ := bindK_ok h
    obtain ⟨x, h3, h4⟩ := bindK_ok h2
    cases h4
    exact stmtsK_mono L t N x.1 m x.2 h3
  | .ret a v, N, N', m, m', h => by
    simp only [stmtK] at h
    obtain ⟨_, _, h2⟩ := bindK_ok h
    cases h2; omega
  | .print a v, N, N', m, m', h => by
    simp only [stmtK] at h
    obtain ⟨_, _, h2⟩ := bindK_ok h
    cases h2; omega
  | .call a v, N, N', m, m', h => by
    simp only [stmtK] at h
    obtain ⟨_, _, h2⟩ := bindK_ok h
    cases h2; omega
theorem stmtsK_mono (L : List Fn) : (l : List St) → (N N' : Nm) → (m m' : Nat) → stmtsK L N m l = .ok (N', m') → m ≤ m'
  | [], N, N', m, m', h => by
    simp only [stmtsK] at h
    cases h; omega
  | s :: r, N, N', m, m', h => by
    simp only [stmtsK] at h
    obtain ⟨x, h1, h2⟩ := bindK_ok h
    have := stmtK_mono L s N x.1 m x.2 h1
    have := stmtsK_mono L r x.1 N' x.2 m' h2
    omega
end
theorem kbindb_of {α β : Type} {b : Nat} {W0 W : World} {x : CK α} {f : α → CK β} {r : CK β} {F : FuncId} {args : Array Value} {ret : α → Value} {Q : Ending → World → Prop}
    (hM : Hid (Mods (· = b) W0 W)) (hx : Hid (bindK x f = r)) (hc : Calls Tryz.prog F args W (KGot W ret x))
    (herr : ∀ n a, r = .error (n, a) → ∀ g w, Hid (Blk w g [.int .i64 n, .int .i64 a] 136) → Hid (Mods (· = b) W0 w) → Q (.panicked [{ v := wrongC g, recovered := false }]) w)
    (hok : ∀ y, Hid (x = .ok y) → Hid (f y = r) → ∀ w, Hid (Mods None W w) → Hid (Mods (· = b) W0 w) → Q (.returned (ret y)) w) :
    Calls Tryz.prog F args W Q := by
  have hx := hx.out
  refine hc.mono ?_
  intro e w h
  cases x with
  | error q =>
    obtain ⟨n, a⟩ := q
    obtain ⟨⟨g, rfl, hb⟩, hm⟩ := h
    exact herr n a hx.symm g w (Lib.hid hb) (Lib.hid (hM.out.trans (hm.mono fun _ _ f => f.elim)))
  | ok y =>
    obtain ⟨rfl, hm⟩ := h
    exact hok y (Lib.hid rfl) (Lib.hid hx) w (Lib.hid hm) (Lib.hid (hM.out.trans (hm.mono fun _ _ f => f.elim)))
theorem abind_of {β : Type} {b : Nat} {L : List Fn} {W0 W : World} {x : CK (Nm × Nat)} {f : Nm × Nat → CK β} {r : CK β} {F : FuncId} {args : Array Value} {Q : Ending → World → Prop}
    (hM : Hid (Mods (· = b) W0 W)) (hx : Hid (bindK x f = r)) (hc : Calls Tryz.prog F args W (AddTo W b L x))
    (herr : ∀ n a, r = .error (n, a) → ∀ g w, Hid (Blk w g [.int .i64 n, .int .i64 a] 136) → Hid (Mods (· = b) W0 w) → Q (.panicked [{ v := wrongC g, recovered := false }]) w)
    (hok : ∀ y, Hid (x = .ok y) → Hid (f y = r) → ∀ w, Hid (Chk w b L y.1 y.2) → Hid (Mods (· = b) W w) → Hid (Mods (· = b) W0 w) → Q (.returned (.tuple #[])) w) :
    Calls Tryz.prog F args W Q := by
  have hx := hx.out
  refine hc.mono ?_
  intro e w h
  cases x with
  | error q =>
    obtain ⟨n, a⟩ := q
    obtain ⟨⟨g, rfl, hb⟩, hm⟩ := h
    exact herr n a hx.symm g w (Lib.hid hb) (Lib.hid (hM.out.trans hm))
  | ok y =>
    obtain ⟨rfl, hk, hm⟩ := h
    exact hok y (Lib.hid rfl) (Lib.hid hx) w (Lib.hid hk) (Lib.hid hm) (Lib.hid (hM.out.trans hm))
def StK (L : List Fn) (s : St) : Prop := ∀ (b : Nat) (N : Nm) (m : Nat) (cs : List Value) (W : World) (r : CK (Nm × Nat)), Chk W b L N m → StAt W (· = b) s cs → stmtK L N m s = r →
  Calls Tryz.prog 68 #[.pointer (some ⟨b, 0, none⟩), .agg cs.toArray] W (AddTo W b L r)
def BlK (L : List Fn) (l : List St) : Prop := ∀ (b : Nat) (N : Nm) (m : Nat) (v : Value) (vs : List Value) (W : World) (r : CK (Nm × Nat)), Chk W b L N m → RowAt W (· = b) 143 7 v l.length vs → StsAt W (· = b) l vs → blockK L N m l = r →
  Calls Tryz.prog 41 #[.pointer (some ⟨b, 0, none⟩), v] W (AddTo W b L r)
theorem StAt.len7 {W : World} {S : Nat → Prop} {s : St} {cs : List Value} (h : StAt W S s cs) : cs.length = 7 := by
  obtain ⟨_, _, _, _, _, _, _, _, _, _, _, rfl⟩ := h.shape
  rfl
theorem StsAt.get {W : World} {S : Nat → Prop} : {l : List St} → {vs : List Value} → StsAt W S l vs → (i : Nat) → (s : St) → l[i]? = some s → ∃ cs, StAt W S s cs ∧ ∀ j, j < 7 → vs[i * 7 + j]? = cs[j]?
  | [], vs, h, i, s, hs => by simp at hs
  | a :: r, vs, h, i, s, hs => by
    simp only [StsAt] at h
    obtain ⟨cs, r2, rfl, h1, h2⟩ := h
    have h7 := h1.len7
    cases i with
    | zero =>
      simp only [List.getElem?_cons_zero, Option.some.injEq] at hs
      subst hs
      refine ⟨cs, h1, fun j hj => ?_⟩
      rw [List.getElem?_append_left (by omega)]
      congr 1
      omega
    | succ i =>
      obtain ⟨ds, h3, h4⟩ := StsAt.get h2 i s (by simpa using hs)
      refine ⟨ds, h3, fun j hj => ?_⟩
      rw [List.getElem?_append_right (by omega), h7, ← h4 j hj]
      congr 1
      omega
set_option maxRecDepth 100000 in
set_option maxHeartbeats 2000000 in
/-- A block, where its statements are looked at so. -/
theorem block_k {L : List Fn} {l : List St} (hS : ∀ s ∈ l, StK L s) : BlK L l := by
  intro b N m v vs W r hC hrow hst hr
  obtain ⟨r0, hr0⟩ : ∃ r0, r0 = stmtsK L N m l := ⟨_, rfl⟩
  have HR : Hid (bindK r0 (fun x => .ok (N, x.2)) = r) := Lib.hid (by rw [hr0]; exact hr)
  have HX : Hid (stmtsK L N m (l.drop 0) = r0) := Lib.hid hr0.symm
  have HST := Lib.hid (fun (w : World) (hm : Mods (· = b) W w) => (StsAt.modsTo hm (fun _ _ k => k) _ _ hst : StsAt w (· = b) l vs))
  obtain ⟨sa, sc, rfl, hsc, hsm, hscell⟩ := ownsRow_slice hrow.1
  have HCL := Lib.hid (fun (w : World) (hm : Mods (· = b) W w) (i : Nat) (hi : i < l.length) => (by
    obtain ⟨cs, h1, h2⟩ := (HST.out w hm).get i l[i] (List.getElem?_eq_getElem hi)
    obtain ⟨code, a, name, p, q, oa, on, oc, ob, om, od, rfl⟩ := h1.shape
    have cell : ∀ j u, j < 7 → ([.int .i64 code, .int .i64 a, .string name, .pointer p, .pointer q, .slice oa on oc, .slice ob om od] : List Value)[j]? = some u → ∃ g, sa = some ⟨g, 0, none⟩ ∧ w.cell? ⟨g, i * 7 + j, none⟩ = some u := by
      intro j u hj hu
      obtain ⟨g, e1, e2, e3⟩ := hscell (i * 7 + j) u (by rw [h2 j hj]; exact hu)
      exact ⟨g, e1, hm.cellOf e3 (hrow.2 g e2)⟩
    obtain ⟨g, e0, k0⟩ := cell 0 _ (by omega) rfl
    have cell2 : ∀ j u, j < 7 → ([.int .i64 code, .int .i64 a, .string name, .pointer p, .pointer q, .slice oa on oc, .slice ob om od] : List Value)[j]? = some u → w.cell? ⟨g, i * 7 + j, none⟩ = some u := by
      intro j u hj hu
      obtain ⟨g', e1, e2⟩ := cell j u hj hu
      rw [e0] at e1
      obtain rfl : g = g' := by simpa using e1
      exact e2
    exact ⟨g, code, a, name, p, q, oa, on, oc, ob, om, od, e0, k0, cell2 1 _ (by omega) rfl, cell2 2 _ (by omega) rfl, cell2 3 _ (by omega) rfl, cell2 4 _ (by omega) rfl, cell2 5 _ (by omega) rfl, cell2 6 _ (by omega) rfl, h1⟩ :
    ∃ g code a name p q oa on oc ob om od, sa = some ⟨g, 0, none⟩ ∧ w.cell? ⟨g, i * 7, none⟩ = some (.int .i64 code) ∧ w.cell? ⟨g, i * 7 + 1, none⟩ = some (.int .i64 a) ∧ w.cell? ⟨g, i * 7 + 2, none⟩ = some (.string name) ∧ w.cell? ⟨g, i * 7 + 3, none⟩ = some (.pointer p) ∧ w.cell? ⟨g, i * 7 + 4, none⟩ = some (.pointer q) ∧ w.cell? ⟨g, i * 7 + 5, none⟩ = some (.slice oa on oc) ∧ w.cell? ⟨g, i * 7 + 6, none⟩ = some (.slice ob om od) ∧
      StAt w (· = b) l[i] [.int .i64 code, .int .i64 a, .string name, .pointer p, .pointer q, .slice oa on oc, .slice ob om od]))
  obtain ⟨few, hlen, fv, nv, hb, hF, hN⟩ := hC
  have HC : Hid (Chk W b L N m) := Lib.hid ⟨few, hlen, fv, nv, hb, hF, hN⟩
  have HN := Lib.hid hN
  have HLEN := Lib.hid hlen
  obtain ⟨na, nn, nc, rfl, -⟩ := hN
  have cb1 : W.cell? ⟨b, 1, none⟩ = some (.slice na nn nc) := hb.cell rfl
  have HM := Lib.hid (Mods.refl (· = b) W)
  obtain ⟨n, hn⟩ : ∃ n, n = l.length := ⟨_, rfl⟩
  have HN1 := Lib.hid hn
  have HSK := Lib.hid (fun (i : Nat) (hi : i < l.length) => hS l[i] (List.getElem_mem hi))
  rw [← hn] at hsc
  unfold maxLen at hsm
  rw [← hn]
  clear hr0 hr hrow hst hscell few hlen hF hb hn hS
  go_enter Tryz.func41, Tryz.ntmps41
  go_wp2_with fail
  go_loopw [6, 13] (fun _ iv wr => ∃ (i : Nat) (N' : Nm) (m' : Nat), i ≤ n ∧ iv = .int .i64 i ∧ Hid (Chk wr b L N' m' ∧ m ≤ m') ∧ Hid (stmtsK L N' m' (l.drop i) = r0) ∧ Hid (Mods (· = b) W wr)) (fun _ iv _ => (n - intOf iv).toNat)
  case atStart => exact ⟨0, N, m, Nat.zero_le _, rfl, Lib.hid ⟨HC.out, Nat.le_refl _⟩, HX, HM⟩
  case round =>
    clear HX HM HC
    obtain ⟨i, N', m', hi, rfl, HC, HX, HM⟩ := hrel
    by_cases hlt : i < n
    · have hil : i < l.length := by have := HN1.out; omega
      obtain ⟨g, code, a, name, p, q, oa, on, oc, ob, om, od, rfl, k0, k1, k2, k3, k4, k5, k6, hs⟩ := HCL.out wr HM.out i hil
      have hpi : (i : Int) < (n : Int) := by omega
      have HS := Lib.hid hs
      obtain ⟨W1, hW1⟩ : ∃ W1, W1 = wr.alloc (.cells #[.int .i64 code, .int .i64 a, .string name, .pointer p, .pointer q, .slice oa on oc, .slice ob om od] 143) := ⟨_, rfl⟩
      have HMA : Hid (Mods None wr W1) := Lib.hid (by rw [hW1]; exact (Mods.refl _ _).alloc _)
      have HX2 : Hid (bindK (stmtK L N' m' l[i]) (fun x => stmtsK L x.1 x.2 (l.drop (i + 1))) = r0) := Lib.hid (by
        rw [← HX.out, List.drop_eq_getElem_cons hil]
        simp only [stmtsK])
      have HCALL := Lib.hid (HSK.out i hil b N' m' _ W1 _ (HC.out.1.mods HMA.out) (StAt.modsTo (HMA.out.mono fun _ _ f => f.elim) (fun _ _ k => k) _ _ HS.out) rfl)
      have HMX : Hid (Mods (· = b) W W1) := Lib.hid (HM.out.trans (HMA.out.mono fun _ _ f => f.elim))
      clear hs HX
      go_wp2_with fail
      rw [← hW1]
      clear hW1 k0 k1 k2 k3 k4 k5 k6
      go_at_call 68
      refine abind_of (b := b) HMX HX2 HCALL.out ?_ ?_
      · rintro q1 q2 hr0 g w HB HM1
        obtain rfl : r = .error (q1, q2) := by rw [← HR.out, hr0]; rfl
        clear HX2 HCALL HSK HR
        go_wp2
        exact ⟨rfl, ⟨g, rfl, HB.out⟩, HM1.out⟩
      · intro y hy hxy w HK HMw HM1
        have hmm := stmtK_mono L _ _ y.1 _ y.2 hy.out
        have HMM := Lib.hid (Nat.le_trans HC.out.2 hmm)
        clear hmm HX2 HCALL hy
        go_wp2_with fail
        exact ⟨⟨i + 1, y.1, y.2, by omega, by go_num, Lib.hid ⟨HK.out, HMM.out⟩, hxy, HM1⟩, by simp [intOf]; omega⟩
    · obtain rfl : i = n := by omega
      have hpi : ¬ (i : Int) < (i : Int) := by omega
      have hx := HX.out
      rw [HN1.out, List.drop_length] at hx
      simp only [stmtsK] at hx
      obtain rfl : r = .ok (N, m') := by rw [← HR.out, ← hx]; rfl
      obtain ⟨few, hlen, fv2, nv2, hb2, hF2, hN2⟩ := HC.out.1
      have c1 : wr.cell? ⟨b, 1, none⟩ = some nv2 := hb2.cell rfl
      have f1 : wr.frozen? ⟨b, 1, none⟩ = false := hb2.free 1
      have HB2 := Lib.hid hb2
      have HF2 := Lib.hid hF2
      have HMN := Lib.hid HC.out.2
      have HFEW := Lib.hid few
      clear hx HX HR HC hb2 hF2 hN2 hlen few HSK HCL
      unfold AddTo
      go_wp2_with fail
      go_end0
      have hMs : Mods (· = b) wr (wr.setCell ⟨b, 1, none⟩ (.slice na nn nc)) := Mods.setCell (S := (· = b)) (p := ⟨b, 1, none⟩) (Mods.refl _ _) (fun _ => rfl) _
      exact ⟨rfl, ⟨HFEW.out, Nat.le_trans HLEN.out HMN.out, fv2, _, HB2.out.set 1 _, HF2.out.mods hMs (fun _ _ f => f), HN.out.mods (HM.out.trans hMs) (fun _ _ f => f)⟩, HM.out.trans hMs⟩
theorem row_nil (W : World) (S : Nat → Prop) (e : TypeId) (k : Nat) : RowAt W S e k nilS 0 [] := ⟨World.ownsRow_nil _ _ _ _, fun _ h => nomatch h⟩
theorem alloc_more {W w : World} {o : Obj} {S : Nat → Prop} (hm : Mods S (W.alloc o) w) (hS : ∀ k, S k → k < W.heap.size) : Mods S W w := ((Mods.refl S W).alloc o).trans hm
/-- What is looked at behind a value: its blocks. -/
def restK (L : List Fn) (N : Nm) (m : Nat) (v : Ex) (t e : List St) : CK (Nm × Nat) := bindK (wantK L N v 1) fun _ => bindK (blockK L N m t) fun x => blockK L x.1 x.2 e
set_option maxRecDepth 100000 in
set_option maxHeartbeats 1000000 in
theorem stmtk_rest {L : List Fn} (code a : Int) (hcode : code = 4 ∨ code = 5 ∨ code = 6 ∨ code = 7 ∨ code = 8) {v : Ex} {t e : List St} (ht : BlK L t) (he : BlK L e) (b : Nat) (N : Nm) (m : Nat) (xv pv qv : Value) (vp vq : List Value) (W : World) (r : CK (Nm × Nat)) (hC : Chk W b L N m)
    (hv : ExAt W (· = b) v xv) (hp : RowAt W (· = b) 143 7 pv t.length vp) (hpt : StsAt W (· = b) t vp) (hq : RowAt W (· = b) 143 7 qv e.length vq) (hqe : StsAt W (· = b) e vq) (hr : restK L N m v t e = r) :
    Calls Tryz.prog 68 #[.pointer (some ⟨b, 0, none⟩), .agg (cells7 code a [] nilP xv pv qv).toArray] W (AddTo W b L r) := by
  obtain ⟨xg, rfl⟩ := hv.ptr
  obtain ⟨pa, pn, pc, rfl⟩ := hp.form
  obtain ⟨qa, qn, qc, rfl⟩ := hq.form
  have HX : Hid (bindK (wantK L N v 1) (fun _ => bindK (blockK L N m t) fun x => blockK L x.1 x.2 e) = r) := Lib.hid hr
  obtain ⟨W1, hW1⟩ : ∃ W1, W1 = W.alloc (.cells (cells7 code a [] nilP (.pointer (some ⟨xg, 0, none⟩)) (.slice pa pn pc) (.slice qa qn qc)).toArray 143) := ⟨_, rfl⟩
  have HMA : Hid (Mods None W W1) := Lib.hid (by rw [hW1]; exact (Mods.refl _ _).alloc _)
  have HB1 : Hid (Blk W1 W.heap.size (cells7 code a [] nilP (.pointer (some ⟨xg, 0, none⟩)) (.slice pa pn pc) (.slice qa qn qc)) 143) := Lib.hid (by rw [hW1]; exact Blk.new W _ _)
  have HBN : Hid (¬ W.heap.size = b) := Lib.hid (by obtain ⟨_, _, _, _, hb, _⟩ := hC; have := hb.lt; omega)
  have HMB : Hid (Mods (· = b) W W1) := Lib.hid (HMA.out.mono fun _ _ f => f.elim)
  have HC := Lib.hid (hC.mods HMA.out)
  have HW := Lib.hid (want_any L N v hC hv 1 W1 HMA.out)
  have HT := Lib.hid (fun (w : World) (N' : Nm) (m' : Nat) (hm : Mods (· = b) W w) (hk : Chk w b L N' m') => (ht b N' m' _ vp w _ hk (hp.mods hm (fun _ _ k => k)) (StsAt.modsTo hm (fun _ _ k => k) _ _ hpt) rfl : Calls Tryz.prog 41 #[.pointer (some ⟨b, 0, none⟩), .slice pa pn pc] w (AddTo w b L (blockK L N' m' t))))
  have HE := Lib.hid (fun (w : World) (N' : Nm) (m' : Nat) (hm : Mods (· = b) W w) (hk : Chk w b L N' m') => (he b N' m' _ vq w _ hk (hq.mods hm (fun _ _ k => k)) (StsAt.modsTo hm (fun _ _ k => k) _ _ hqe) rfl : Calls Tryz.prog 41 #[.pointer (some ⟨b, 0, none⟩), .slice qa qn qc] w (AddTo w b L (blockK L N' m' e))))
  clear hC hv hp hpt hq hqe hr ht he
  unfold cells7 nilP str at *
  rcases hcode with rfl | rfl | rfl | rfl | rfl
  all_goals
    go_enter Tryz.func68, Tryz.ntmps68
    go_wp2_with fail
    rw [← hW1]
    clear hW1
    go_at_call 101
    refine kbindb_of (b := b) HMB HX HW.out ?_ ?_
    · rintro n a rfl g w HB HM1
      go_wp2
      exact ⟨rfl, ⟨g, rfl, HB.out⟩, HM1.out⟩
    · intro _ _ HX2 w HMw HM1
      have HB2 := Lib.hid (HB1.out.mods HMw.out (fun f => f))
      have HC2 := Lib.hid (HC.out.mods HMw.out)
      have c5 : w.cell? ⟨W.heap.size, 5, none⟩ = some (.slice pa pn pc) := HB2.out.cell rfl
      clear HX HW HB1 HC
      go_wp2_with fail
      go_at_call 41
      refine abind_of (b := b) HM1 HX2 (HT.out w N m HM1.out HC2.out) ?_ ?_
      · rintro n a rfl g w HB HM1
        go_wp2
        exact ⟨rfl, ⟨g, rfl, HB.out⟩, HM1.out⟩
      · intro y _ HX3 w3 HK HMw3 HM3
        have HB3 := Lib.hid (HB2.out.mods HMw3.out HBN.out)
        have c6 : w3.cell? ⟨W.heap.size, 6, none⟩ = some (.slice qa qn qc) := HB3.out.cell rfl
        have HCL := Lib.hid (HE.out w3 y.1 y.2 HM3.out HK.out)
        clear HX2 HT HE HB2 HC2 c5
        go_wp2_with fail
        go_at_call 41
        have HX5 : Hid (bindK (blockK L y.1 y.2 e) (fun y => .ok y) = r) := Lib.hid (by rw [← HX3.out]; cases blockK L y.1 y.2 e <;> rfl)
        refine abind_of (b := b) HM3 HX5 HCL.out ?_ ?_
        · rintro n a rfl g w HB HM1
          go_wp2
          exact ⟨rfl, ⟨g, rfl, HB.out⟩, HM1.out⟩
        · intro z _ HX4 w4 HK4 HMw4 HM4
          obtain rfl : r = .ok z := HX4.out.symm
          clear HX3 HX4 HX5 HCL c6
          go_wp2_with fail
          go_end0
          exact ⟨rfl, HK4.out, HM4.out⟩
set_option maxRecDepth 100000 in
set_option maxHeartbeats 1000000 in
theorem stmtk_set {L : List Fn} (a : Int) (s : List UInt8) (v : Ex) (b : Nat) (N : Nm) (m : Nat) (xv : Value) (W : World) (r : CK (Nm × Nat)) (hC : Chk W b L N m) (hv : ExAt W (· = b) v xv) (hr : stmtK L N m (.set a s v) = r) :
    Calls Tryz.prog 68 #[.pointer (some ⟨b, 0, none⟩), .agg (cells7 2 a s nilP xv nilS nilS).toArray] W (AddTo W b L r) := by
  obtain ⟨xg, rfl⟩ := hv.ptr
  obtain ⟨W1, hW1⟩ : ∃ W1, W1 = W.alloc (.cells (cells7 2 a s nilP (.pointer (some ⟨xg, 0, none⟩)) nilS nilS).toArray 143) := ⟨_, rfl⟩
  have HMA : Hid (Mods None W W1) := Lib.hid (by rw [hW1]; exact (Mods.refl _ _).alloc _)
  have HB1 : Hid (Blk W1 W.heap.size (cells7 2 a s nilP (.pointer (some ⟨xg, 0, none⟩)) nilS nilS) 143) := Lib.hid (by rw [hW1]; exact Blk.new W _ _)
  have HMB : Hid (Mods (· = b) W W1) := Lib.hid (HMA.out.mono fun _ _ f => f.elim)
  have HC := Lib.hid (hC.mods HMA.out)
  have HF := Lib.hid (find_any b L N m s W1 HC.out)
  have HW := Lib.hid (fun (k : Int) (w : World) (hm : Mods None W w) => want_any L N v hC hv k w hm)
  simp only [stmtK] at hr
  obtain ⟨q, hq⟩ : ∃ q, q = findN N s := ⟨_, rfl⟩
  rw [← hq] at hr HF
  clear hC hv hq
  by_cases h0 : q = 0
  · rw [if_pos h0] at hr
    subst hr h0
    unfold cells7 nilP nilS str AddTo at *
    go_enter Tryz.func68, Tryz.ntmps68
    go_wp2_with fail
    rw [← hW1]
    clear hW1
    go_at_call 66
    refine HF.out.mono ?_
    rintro e w2 ⟨rfl, hm2⟩
    have c1 : w2.cell? ⟨W.heap.size, 1, none⟩ = some (.int .i64 a) := hm2.cellOf (HB1.out.cell rfl) (fun f => f)
    go_wp2_with fail
    go_at_call 39
    refine (cfail_any 7 a w2).mono ?_
    rintro e w3 ⟨⟨g, rfl, hb3⟩, hm3⟩
    go_wp2
    exact ⟨rfl, ⟨g, rfl, hb3⟩, (HMA.out.trans (hm2.trans hm3)).mono fun _ _ f => f.elim⟩
  · rw [if_neg h0] at hr
    have hq0 : (q == 0) = false := by simpa using h0
    have HX : Hid (bindK (wantK L N v q) (fun _ => .ok (N, m)) = r) := Lib.hid hr
    clear hr
    unfold cells7 nilP nilS str at *
    go_enter Tryz.func68, Tryz.ntmps68
    go_wp2_with fail
    rw [← hW1]
    clear hW1
    go_at_call 66
    refine HF.out.mono ?_
    rintro e w2 ⟨rfl, hm2⟩
    have HM2 := Lib.hid (HMA.out.trans hm2)
    have HM2B : Hid (Mods (· = b) W w2) := Lib.hid (HM2.out.mono fun _ _ f => f.elim)
    have HWW := Lib.hid (HW.out q w2 HM2.out)
    have HC2 := Lib.hid (HC.out.mods hm2)
    have c0 : w2.cell? ⟨W.heap.size, 0, none⟩ = some (.int .i64 2) := hm2.cellOf (HB1.out.cell rfl) (fun f => f)
    have c4 : w2.cell? ⟨W.heap.size, 4, none⟩ = some (.pointer (some ⟨xg, 0, none⟩)) := hm2.cellOf (HB1.out.cell rfl) (fun f => f)
    clear hm2 HF HW HC
    go_wp2_with fail
    go_at_call 101
    refine kbindb_of (b := b) HM2B HX HWW.out ?_ ?_
    · rintro n a rfl g w HB HM1
      go_wp2
      exact ⟨rfl, ⟨g, rfl, HB.out⟩, HM1.out⟩
    · intro _ _ HX2 w HMw HM1
      obtain rfl : r = .ok (N, m) := HX2.out.symm
      have HC3 := Lib.hid (HC2.out.mods HMw.out)
      clear HX HX2 HWW HC2 c0 c4
      go_wp2_with fail
      go_end0
      exact ⟨rfl, HC3.out, HM1.out⟩
set_option maxRecDepth 100000 in
set_option maxHeartbeats 1000000 in
theorem stmtk_put {L : List Fn} (a : Int) (s : List UInt8) (i v : Ex) (b : Nat) (N : Nm) (m : Nat) (iv xv : Value) (W : World) (r : CK (Nm × Nat)) (hC : Chk W b L N m) (hi : ExAt W (· = b) i iv) (hv : ExAt W (· = b) v xv) (hr : stmtK L N m (.put a s i v) = r) :
    Calls Tryz.prog 68 #[.pointer (some ⟨b, 0, none⟩), .agg (cells7 3 a s iv xv nilS nilS).toArray] W (AddTo W b L r) := by
  obtain ⟨xg, rfl⟩ := hv.ptr
  obtain ⟨ig, rfl⟩ := hi.ptr
  obtain ⟨W1, hW1⟩ : ∃ W1, W1 = W.alloc (.cells (cells7 3 a s (.pointer (some ⟨ig, 0, none⟩)) (.pointer (some ⟨xg, 0, none⟩)) nilS nilS).toArray 143) := ⟨_, rfl⟩
  have HMA : Hid (Mods None W W1) := Lib.hid (by rw [hW1]; exact (Mods.refl _ _).alloc _)
  have HB1 : Hid (Blk W1 W.heap.size (cells7 3 a s (.pointer (some ⟨ig, 0, none⟩)) (.pointer (some ⟨xg, 0, none⟩)) nilS nilS) 143) := Lib.hid (by rw [hW1]; exact Blk.new W _ _)
  have HMB : Hid (Mods (· = b) W W1) := Lib.hid (HMA.out.mono fun _ _ f => f.elim)
  have HC := Lib.hid (hC.mods HMA.out)
  have HF := Lib.hid (find_any b L N m s W1 HC.out)
  have HW := Lib.hid (fun (k : Int) (w : World) (hm : Mods None W w) => want_any L N v hC hv k w hm)
  have HI := Lib.hid (fun (k : Int) (w : World) (hm : Mods None W w) => want_any L N i hC hi k w hm)
  simp only [stmtK] at hr
  obtain ⟨q, hq⟩ : ∃ q, q = findN N s := ⟨_, rfl⟩
  rw [← hq] at hr HF
  clear hC hv hq hi
  by_cases h0 : q = 0
  · rw [if_pos h0] at hr
    subst hr h0
    unfold cells7 nilS str AddTo at *
    go_enter Tryz.func68, Tryz.ntmps68
    go_wp2_with fail
    rw [← hW1]
    clear hW1
    go_at_call 66
    refine HF.out.mono ?_
    rintro e w2 ⟨rfl, hm2⟩
    have c1 : w2.cell? ⟨W.heap.size, 1, none⟩ = some (.int .i64 a) := hm2.cellOf (HB1.out.cell rfl) (fun f => f)
    go_wp2_with fail
    go_at_call 39
    refine (cfail_any 7 a w2).mono ?_
    rintro e w3 ⟨⟨g, rfl, hb3⟩, hm3⟩
    go_wp2
    exact ⟨rfl, ⟨g, rfl, hb3⟩, (HMA.out.trans (hm2.trans hm3)).mono fun _ _ f => f.elim⟩
  · rw [if_neg h0] at hr
    have hq0 : (q == 0) = false := by simpa using h0
    by_cases h2 : q = 2
    · rw [if_neg (by simpa using h2)] at hr
      subst h2
      have HX : Hid (bindK (wantK L N i 1) (fun _ => bindK (wantK L N v 1) fun _ => .ok (N, m)) = r) := Lib.hid hr
      clear hr h0 hq0
      unfold cells7 nilS str at *
      go_enter Tryz.func68, Tryz.ntmps68
      go_wp2_with fail
      rw [← hW1]
      clear hW1
      go_at_call 66
      refine HF.out.mono ?_
      rintro e w2 ⟨rfl, hm2⟩
      have HM2 := Lib.hid (HMA.out.trans hm2)
      have HM2B : Hid (Mods (· = b) W w2) := Lib.hid (HM2.out.mono fun _ _ f => f.elim)
      have HWI := Lib.hid (HI.out 1 w2 HM2.out)
      have HC2 := Lib.hid (HC.out.mods hm2)
      have HB2 := Lib.hid (HB1.out.mods hm2 (fun f => f))
      have c0 : w2.cell? ⟨W.heap.size, 0, none⟩ = some (.int .i64 3) := HB2.out.cell rfl
      have c3 : w2.cell? ⟨W.heap.size, 3, none⟩ = some (.pointer (some ⟨ig, 0, none⟩)) := HB2.out.cell rfl
      clear hm2 HF HI HC
      go_wp2_with fail
      go_at_call 101
      refine kbindb_of (b := b) HM2B HX HWI.out ?_ ?_
      · rintro n a rfl g w HB HM1
        go_wp2
        exact ⟨rfl, ⟨g, rfl, HB.out⟩, HM1.out⟩
      · intro _ _ HX2 w HMw HM1
        have HC3 := Lib.hid (HC2.out.mods HMw.out)
        have HWV := Lib.hid (HW.out 1 w (HM2.out.trans HMw.out))
        have c4 : w.cell? ⟨W.heap.size, 4, none⟩ = some (.pointer (some ⟨xg, 0, none⟩)) := HMw.out.cellOf (HB2.out.cell rfl) (fun f => f)
        clear HX HWI HC2 c0 c3 HB2 HB1 HW
        go_wp2_with fail
        go_at_call 101
        refine kbindb_of (b := b) HM1 HX2 HWV.out ?_ ?_
        · rintro n a rfl g w HB HM1
          go_wp2
          exact ⟨rfl, ⟨g, rfl, HB.out⟩, HM1.out⟩
        · intro _ _ HX3 w3 HMw3 HM3
          obtain rfl : r = .ok (N, m) := HX3.out.symm
          have HC4 := Lib.hid (HC3.out.mods HMw3.out)
          clear HX2 HX3 HWV HC3 c4
          go_wp2_with fail
          go_end0
          exact ⟨rfl, HC4.out, HM3.out⟩
    · rw [if_pos (by simpa using h2)] at hr
      subst hr
      have hq2 : (q != 2) = true := by simpa using h2
      unfold cells7 nilS str AddTo at *
      go_enter Tryz.func68, Tryz.ntmps68
      go_wp2_with fail
      rw [← hW1]
      clear hW1
      go_at_call 66
      refine HF.out.mono ?_
      rintro e w2 ⟨rfl, hm2⟩
      have c0 : w2.cell? ⟨W.heap.size, 0, none⟩ = some (.int .i64 3) := hm2.cellOf (HB1.out.cell rfl) (fun f => f)
      have c1 : w2.cell? ⟨W.heap.size, 1, none⟩ = some (.int .i64 a) := hm2.cellOf (HB1.out.cell rfl) (fun f => f)
      go_wp2_with fail
      go_at_call 39
      refine (cfail_any 1 a w2).mono ?_
      rintro e w3 ⟨⟨g, rfl, hb3⟩, hm3⟩
      go_wp2
      exact ⟨rfl, ⟨g, rfl, hb3⟩, (HMA.out.trans (hm2.trans hm3)).mono fun _ _ f => f.elim⟩
end Go.Proofs.YtnicpmoanjddbaaGreatDoor.TreeP
