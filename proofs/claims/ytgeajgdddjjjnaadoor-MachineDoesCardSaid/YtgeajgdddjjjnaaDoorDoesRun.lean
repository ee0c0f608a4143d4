/- The reference's machine does a word: a contract of its Step, of any machine that lies in memory; and its Run. Conditions: that it does. The reference's machine runs: a contract of its Run. Conditions: that the machine lies in memory. -/
import Derived.Test.YtgeajgdddjjjnaaDoorDoesSA
import Derived.Test.YtgeajgdddjjjnaaDoorDoesSB
import Derived.Test.YtgeajgdddjjjnaaDoorDoesSC
import Derived.Test.YtgeajgdddjjjnaaDoorDoesSD
import Derived.Test.YtgeajgdddjjjnaaDoorDoesSE
import Derived.Test.YtgeajgdddjjjnaaDoorDoesSF
import Derived.Test.YtgeajgdddjjjnaaDoorMachRun
namespace Go.Proofs.YtgeajgdddjjjnaaDoor.RMachP
open Go.RowKit Go.Proofs.YtgeajgdddjjjnaaDoor.Wo Go.Proofs.YtgeajgdddjjjnaaDoor.WordP Go.Proofs.YtgeajgdddjjjnaaDoor.MachP Go.Proofs.YtgeajgdddjjjnaaDoor.AluP Go.Proofs.YtgeajgdddjjjnaaDoor.RefP
set_option linter.unusedVariables false
set_option linter.unusedSimpArgs false
theorem rstep_any (c b : Nat) (O : Nat → Prop) (M : Mac) (W : World) (h : RMach c W b O M) (hfit : Fit M) (hc : c < 100000) :
    Calls Tryd.prog 29 #[.pointer (some ⟨b, 0, none⟩)] W fun e w' => e = .returned (.tuple #[]) ∧ RWent (c + 1) O b M.step W w' := by
  by_cases hw : M.way = 0
  · cases hr : M.right M.pc 4
    · exact (rstep_far c b O M W h hfit hw hr).mono fun e w' ⟨he, hm⟩ => ⟨he, hm.mono (Nat.le_succ _)⟩
    · cases hd : dec (le (M.bytes M.pc 4)) with
      | none => exact rstep_none c b O M W h hfit hw hr hd hc
      | some x =>
        obtain ⟨⟨h1, h31⟩, _⟩ := right_parts (dec_some hd).1
        have hop : x.op ≤ 13 ∨ (13 < x.op ∧ x.op ≤ 21) ∨ x.op = 22 ∨ x.op = 23 ∨ x.op = 24 ∨ x.op = 25 ∨ x.op = 26 ∨ x.op = 27 ∨ x.op = 28 ∨ x.op = 29 ∨ x.op = 30 ∨ x.op = 31 := by omega
        rcases hop with e | e | e | e | e | e | e | e | e | e | e | e
        · exact rstep_alu c b O M W h hfit hw hr x e hd hc
        · exact rstep_imm c b O M W h hfit hw hr x e.1 e.2 hd hc
        · cases hq : M.right (wrap64 (M.reg x.ra + x.n)) 8
          · exact rstep_ld_no c b O M W h hfit hw hr x e hq hd hc
          · exact rstep_ld_yes c b O M W h hfit hw hr x e hq hd hc
        · exact rstep_jalr c b O M W h hfit hw hr x e hd hc
        · cases hq : M.right (wrap64 (M.reg x.ra + x.n)) 8
          · exact rstep_sd_no c b O M W h hfit hw hr x e hq hd hc
          · exact rstep_sd_yes c b O M W h hfit hw hr x e hq hd hc
        · cases hq : (M.reg x.ra == M.reg x.rb)
          · exact rstep_br25_no c b O M W h hfit hw hr x e hq hd hc
          · exact rstep_br25_yes c b O M W h hfit hw hr x e hq hd hc
        · cases hq : (M.reg x.ra != M.reg x.rb)
          · exact rstep_br26_no c b O M W h hfit hw hr x e hq hd hc
          · exact rstep_br26_yes c b O M W h hfit hw hr x e hq hd hc
        · cases hq : decide (M.reg x.ra < M.reg x.rb)
          · exact rstep_br27_no c b O M W h hfit hw hr x e hq hd hc
          · exact rstep_br27_yes c b O M W h hfit hw hr x e hq hd hc
        · cases hq : decide (M.reg x.rb ≤ M.reg x.ra)
          · exact rstep_br28_no c b O M W h hfit hw hr x e hq hd hc
          · exact rstep_br28_yes c b O M W h hfit hw hr x e hq hd hc
        · exact rstep_lui c b O M W h hfit hw hr x e hd hc
        · exact rstep_jal c b O M W h hfit hw hr x e hd hc
        · cases hq : M.call.2
          · exact rstep_ec_no c b O M W h hfit hw hr x e hq hd hc
          · exact rstep_ec_yes c b O M W h hfit hw hr x e hq hd hc
  · exact (rstep_ended c b O M W h (by simpa using hw)).mono fun e w' ⟨he, hm⟩ => ⟨he, hm.mono (Nat.le_succ _)⟩
end Go.Proofs.YtgeajgdddjjjnaaDoor.RMachP
namespace Go.Proofs.YtgeajgdddjjjnaaDoor.RMachP
open Go.RowKit Go.Proofs.YtgeajgdddjjjnaaDoor.Wo Go.Proofs.YtgeajgdddjjjnaaDoor.WordP Go.Proofs.YtgeajgdddjjjnaaDoor.MachP Go.Proofs.YtgeajgdddjjjnaaDoor.AluP Go.Proofs.YtgeajgdddjjjnaaDoor.RefP
set_option linter.unusedVariables false
set_option linter.unusedSimpArgs false
theorem rwent_next {c : Nat} {O O1 : Nat → Prop} {b : Nat} {M2 : Mac} {W W1 W2 : World} (a2 : ∀ k, O1 k → O k ∨ W.heap.size ≤ k) (a3 : Mods O W W1) (h : RWent c O1 b M2 W1 W2) : RWent c O b M2 W W2 := by
  obtain ⟨O2, b1, b2, b3⟩ := h
  refine ⟨O2, b1, fun k hk => ?_, a3.trans' b3 (fun k hk hlt => ?_)⟩
  · rcases b2 k hk with h | h
    · exact a2 k h
    · exact .inr (Nat.le_trans a3.size h)
  · rcases a2 k hk with h | h
    · exact h
    · omega
/-- What Run tells, and what it made of the machine. -/
def RRunIs (c b : Nat) (O : Nat → Prop) (M' : Mac) (W : World) (e : Ending) (W' : World) : Prop :=
  ∃ va vm vc, e = .returned (.agg #[.int .i64 M'.endWay, .int .i64 M'.code, .slice va vm vc]) ∧ W'.ownsRow 0 2 1 (.slice va vm vc) M'.out.length (M'.out.map (.int .i64)) ∧ RWent c O b M' W W'
theorem rrun_told {c b : Nat} {O : Nat → Prop} {M' : Mac} {W W1 wr W2 : World} {bm : Nat} {inv : Value} {va : Option Addr} {vm vc : Nat} (hm0 : Mods None W W1) (O1 : Nat → Prop) (h : RAt c wr b bm inv (.slice va vm vc) M') (ho : Own wr b O1 bm inv (.slice va vm vc))
    (hO1 : ∀ k, O1 k → O k ∨ W1.heap.size ≤ k) (hmd : Mods O W1 wr) (hO : ∀ k, O k → k < W.heap.size) (hs1 : W1.heap.size = W.heap.size + 1) (hm2 : Mods (fun k => k = W.heap.size ∨ k = wr.heap.size) wr W2) (wy : Int) (hwy : M'.endWay = wy) :
    RRunIs c b O M' W (.returned (.agg #[.int .i64 wy, .int .i64 M'.code, .slice va vm vc])) W2 := by
  subst hwy
  have hn : ∀ k, O1 k → ¬ (k = W.heap.size ∨ k = wr.heap.size) := fun k hk f => by
    have h3 := ho.lt k hk
    rcases f with f | f
    · rcases hO1 k hk with h | h
      · have := hO k h; omega
      · omega
    · omega
  have h6 : RAt c W2 b bm inv (.slice va vm vc) M' := h.mods hm2 (hn _ ho.b) (hn _ ho.bm) (fun k hk => hn _ (ho.inv k hk)) (fun k hk => hn _ (ho.outv k hk))
  refine ⟨va, vm, vc, rfl, h6.out, O1, ⟨bm, inv, _, h6, Own.mods ho hm2⟩, fun k hk => ?_, ?_⟩
  · rcases hO1 k hk with h | h
    · exact .inl h
    · exact .inr (by omega)
  · have h5 : Mods O W wr := (hm0.mono (T := O) fun _ _ f => f.elim).trans hmd
    have h7 := hmd.size
    exact h5.trans' hm2 (fun k hk hl => by omega)
set_option maxRecDepth 100000 in
set_option maxHeartbeats 1000000 in
theorem rrun_any (c b : Nat) (O : Nat → Prop) (M : Mac) (W : World) (h : RMach c W b O M) (hfit : Fit M) (n : Nat) (hn : n ≤ 1000) (hc : c + n < 100000) :
    Calls Tryd.prog 34 #[.pointer (some ⟨b, 0, none⟩), .int .i64 n] W (RRunIs (c + n) b O (M.run n) W) := by
  have hOlt := h.lt
  obtain ⟨Q, hQ⟩ : ∃ Q, Q = RRunIs (c + n) b O (M.run n) W := ⟨_, rfl⟩
  rw [← hQ]
  have HQ := Lib.hid hQ
  clear hQ
  obtain ⟨W1, hW1⟩ : ∃ W1, W1 = W.alloc (.cells #[.int .i64 0, .int .i64 0, .slice none 0 0] 47) := ⟨_, rfl⟩
  have hm0 : Mods None W W1 := by rw [hW1]; exact (Mods.refl _ _).alloc _
  have H := Lib.hid (h.mods hm0 (fun _ _ f => f))
  have HB : Hid (Blk W1 W.heap.size [.int .i64 0, .int .i64 0, .slice none 0 0] 47) := Lib.hid (by rw [hW1]; exact zero3 W)
  have HS : Hid (W1.heap.size = W.heap.size + 1) := Lib.hid (by rw [hW1]; simp)
  have HM0 := Lib.hid hm0
  have HO := Lib.hid hOlt
  have HFIT := Lib.hid hfit
  clear h hm0 hOlt hfit
  go_enter Tryd.func34, Tryd.ntmps34
  go_wp2_with fail
  rw [← hW1]
  clear hW1
  go_loopw [1] (fun i wr => ∃ (k : Nat) (M' : Mac), k ≤ n ∧ i = .int .i64 k ∧ Hid (M.run n = M'.run k) ∧ Hid (RWent (c + (n - k)) O b M' W1 wr) ∧ Hid (Fit M')) (fun i _ => (intOf i).toNat)
  case atStart => exact ⟨n, M, Nat.le_refl _, rfl, Lib.hid rfl, Lib.hid (by rw [Nat.sub_self]; exact RWent.refl H.out), HFIT⟩
  case round =>
    obtain ⟨k, M', hk, rfl, hrun, hwent, hft⟩ := hrel
    obtain ⟨O1, hm, hO1, hmd⟩ := hwent.out
    have HM := Lib.hid hm
    obtain ⟨bm, inv, outv, hat, hown⟩ := hm
    obtain ⟨va, vm, vc, rfl⟩ := form_any hat.out
    have hway := hat.cway
    have hcode := hat.ccode
    have hout := hat.cout
    have HAT := Lib.hid hat
    have HOWN := Lib.hid hown
    have HO1 := Lib.hid hO1
    have HMD := Lib.hid hmd
    have hlt := hmd.size
    have hb1 := HB.out.mods hmd (fun f => by have := HO.out _ f; omega)
    have r0 := hb1.cell (i := 0) rfl
    have r1 := hb1.cell (i := 1) rfl
    have r2 := hb1.cell (i := 2) rfl
    have rf := hb1.free
    have hltw := hb1.lt
    clear hat hown hmd hO1 hb1 hlt
    by_cases hk0 : 0 < k
    · by_cases hw : M'.way = 0
      · rw [hw] at hway
        clear r0 r1 r2 rf hltw hout hcode
        go_wp2_with fail
        refine (rstep_any _ b O1 M' _ HM.out hft.out (by omega)).mono ?_
        rintro e w2 ⟨rfl, hw2⟩
        have HW2 := Lib.hid hw2
        clear hw2 hway
        go_wp2
        go_roundw
        case rel => exact ⟨k - 1, M'.step, by omega, by go_num, Lib.hid (by rw [hrun.out, run_step (by omega) hw]), Lib.hid (rwent_next HO1.out HMD.out (HW2.out.mono (by omega))), Lib.hid (fit_step hft.out)⟩
        case measure => simp [intOf]; omega
      · have hend : Hid (M.run n = M') := Lib.hid (by rw [hrun.out, run_done hw])
        have HW := Lib.hid hw
        have hw' : (M'.way == 0) = false := by simpa using hw
        clear hw
        go_wp2_with fail
        refine bodyPost_ret (v := .agg #[.int .i64 M'.way, .int .i64 M'.code, .slice va vm vc]) (by simp [results, Tryd.results34, go_sem, r0, r1, r2, World.cell?_alloc_past, hltw]) rfl ?_
        rw [HQ.out, hend.out]
        exact rrun_told (M' := M') HM0.out O1 (HAT.out.mono (by omega)) HOWN.out HO1.out HMD.out HO.out HS.out (by repeat (first | with_reducible exact Mods.refl _ _ | with_reducible refine Mods.alloc ?_ _ | with_reducible refine Mods.setCell ?_ (fun _ => .inl rfl) _)) _ (by simp [Mac.endWay, HW.out])
    · obtain rfl : k = 0 := by omega
      have hend : Hid (M.run n = M') := Lib.hid (by rw [hrun.out]; rfl)
      by_cases hw : M'.way = 0
      · have HW := Lib.hid hw
        have hw' : (M'.way == 0) = true := by simpa using hw
        clear hw
        go_wp2_with fail
        refine bodyPost_ret (v := .agg #[.int .i64 6, .int .i64 M'.code, .slice va vm vc]) (by simp [results, Tryd.results34, go_sem, r0, r1, r2, World.cell?_alloc_past, hltw]) rfl ?_
        rw [HQ.out, hend.out]
        exact rrun_told (M' := M') HM0.out O1 (HAT.out.mono (by omega)) HOWN.out HO1.out HMD.out HO.out HS.out (by repeat (first | with_reducible exact Mods.refl _ _ | with_reducible refine Mods.alloc ?_ _ | with_reducible refine Mods.setCell ?_ (fun _ => .inl rfl) _ | with_reducible refine Mods.setCell ?_ (fun _ => .inr rfl) _)) _ (by simp [Mac.endWay, HW.out])
      · have HW := Lib.hid hw
        have hw' : (M'.way == 0) = false := by simpa using hw
        clear hw
        go_wp2_with fail
        refine bodyPost_ret (v := .agg #[.int .i64 M'.way, .int .i64 M'.code, .slice va vm vc]) (by simp [results, Tryd.results34, go_sem, r0, r1, r2, World.cell?_alloc_past, hltw]) rfl ?_
        rw [HQ.out, hend.out]
        exact rrun_told (M' := M') HM0.out O1 (HAT.out.mono (by omega)) HOWN.out HO1.out HMD.out HO.out HS.out (by repeat (first | with_reducible exact Mods.refl _ _ | with_reducible refine Mods.alloc ?_ _ | with_reducible refine Mods.setCell ?_ (fun _ => .inl rfl) _)) _ (by simp [Mac.endWay, HW.out])
end Go.Proofs.YtgeajgdddjjjnaaDoor.RMachP
