/- The document's reader: a whole text. Conditions: that Fine, and two numbers of the library's own, lie. -/
import Derived.Test.YtdgedlhefjmcpaaGreatDoorEn16
import Derived.Deep.Cut
import Derived.Deep.DeepCutAuto
import Derived.Deep.CutBlock
namespace Go.Proofs.YtdgedlhefjmcpaaGreatDoor.TreeP.R
open Go.RowKit Go.Proofs.YtdgedlhefjmcpaaGreatDoor.Wo Go.Proofs.YtdgedlhefjmcpaaGreatDoor.TreeP
set_option linter.unusedVariables false
set_option linter.unusedSimpArgs false
structure Lies (W:World):Prop where
 fine:FineAt W W.heap.size
 most:MaxAt W W.heap.size
 rng:RangeAt W W.heap.size
def Parsed (W:World):Except (Int×Int) (List Fn)→Ending→World→Prop
 | .error (n,a)=>fun e w=>e=.returned (.tuple #[.slice none 0 0,.agg #[.int .i64 n,.int .i64 a]])∧(n=3∨n=4)∧Mods None W w
 | .ok l=>fun e w=>∃ v vs,e=.returned (.tuple #[v,.agg #[.int .i64 0,.int .i64 (-1)]])∧RowAt w None 33 4 v l.length vs∧FnsAt w None l vs∧Mods None W w
theorem neq_fine (w:World):(Go.binOp .neq 40 (.agg #[.int .i64 0,.int .i64 (-1)]) (.agg #[.int .i64 0,.int .i64 (-1)])).run Tryz.prog w=.ok (.bool false) w:=by kernel_rfl
theorem neq_3 (a:Int) (w:World):(Go.binOp .neq 40 (.agg #[.int .i64 3,.int .i64 a]) (.agg #[.int .i64 0,.int .i64 (-1)])).run Tryz.prog w=.ok (.bool true) w:=by kernel_rfl
theorem neq_4 (a:Int) (w:World):(Go.binOp .neq 40 (.agg #[.int .i64 4,.int .i64 a]) (.agg #[.int .i64 0,.int .i64 (-1)])).run Tryz.prog w=.ok (.bool true) w:=by kernel_rfl
def PB (n b:Nat):Nat→Prop:=fun k=>k=b∨k=n
structure Hd (W w:World) (b:Nat) (v:Value) (k:Nat) (vs:List Value):Prop where
 res:Blk w W.heap.size [.int .i64 0,.int .i64 0] 40
 row:Grows w (b+1) (PB W.heap.size b) 33 4 v k vs
 mods:Mods None W w
 lt:W.heap.size<b
theorem Hd.next {W w w':World} {b:Nat} {v:Value} {k:Nat} {vs:List Value} (h:Hd W w b v k vs) (hm:Mods (·=b) w w'):Hd W w' b v k vs :=
 ⟨h.res.mods hm (fun hk=>by have:=h.lt;have:W.heap.size=b:=hk;omega),h.row.next (Or.inl rfl) hm,h.mods.trans' hm (fun k hk hl=>by have:=h.lt;have:k=b:=hk;omega),h.lt⟩
theorem Hd.quiet {W w w':World} {b:Nat} {v:Value} {k:Nat} {vs:List Value} (h:Hd W w b v k vs) (hm:Mods None w w'):Hd W w' b v k vs:=h.next (hm.mono fun _ _ f=>f.elim)
def Tl (f:Nat) (W:World) (b:Nat) (x:Except (Int×Int) (List Fn×List Tok)) (lv:Value) (k:Nat) (vs:List Value) (wr:World):Except (Int×Int) (List Tok)→Prop
 | .ok r=>∃ ff l,ff≤f∧l.length=k∧FnsAt wr (Own (PB W.heap.size b) lv) l vs∧programF ff l r=some x
 | .error e=>x=.error e
def OutAt (f:Nat) (W:World) (b:Nat) (x:Except (Int×Int) (List Fn×List Tok)) (lv:Value) (wr:World):Prop :=
 ∃ k vs z,k≤12∧Hd W wr b lv k vs∧Rx wr b z∧Tl f W b x lv k vs wr z
def isOk:Except (Int×Int) (List Tok)→Bool
 | .ok _=>true
 | .error _=>false
theorem ok_b {b:Nat} {W:World} {z:Except (Int×Int) (List Tok)} (h:Rx W b z) :
  Calls Tryz.prog 42 #[.pointer (some ⟨b,0,none⟩)] W fun e w=>e=.returned (.bool (isOk z))∧Rx w b z∧Mods None W w:=by
 cases z with
 | ok r=>exact ok_x h
 | error e=>exact ok_n h
/-! What must still come of a function,point by point. -/
def kD (f:Nat) (l:List Fn) (ta:Int) (n:List UInt8) (ps:List (List UInt8×Int)) (bl:List St) (r:List Tok):PR (List Fn):=programF (f+1) (l++[⟨n,ta,ps,bl⟩]) r
def kC (f:Nat) (l:List Fn) (ta:Int) (n:List UInt8) (ps:List (List UInt8×Int)) (r:List Tok):PR (List Fn):=andThen (blockF f 0 r) (kD f l ta n ps)
def kB (f:Nat) (l:List Fn) (ta:Int) (n:List UInt8) (r:List Tok):PR (List Fn):=andThen (must [40] r) fun _ r3=>andThen (paramsF f true [] r3) (kC f l ta n)
def kA (f:Nat) (l:List Fn) (ta:Int) (r:List Tok):PR (List Fn):=andThen (nameP r) (kB f l ta)
theorem program_step (f:Nat) (l:List Fn) (r:List Tok) (h4:¬ headKind r=4) (h12:¬ l.length=12):programF (f+2) l r=andThen (must kFn r) fun _ r2=>kA f l (headAt r) r2:=by
 rw [programF,if_neg h4,if_neg h12,functionF]
 simp only [andThen_assoc]
 rfl
/-! The same for a parameter. -/
def kT {γ:Type} (f:Nat) (ps:List (List UInt8×Int)) (K:List (List UInt8×Int)→List Tok→PR γ) (n:List UInt8) (t:Int) (r:List Tok):PR γ:=andThen (paramsF f false (ps++[(n,t)]) r) K
def kS {γ:Type} (f:Nat) (ps:List (List UInt8×Int)) (K:List (List UInt8×Int)→List Tok→PR γ) (n:List UInt8) (r:List Tok):PR γ:=if seeB kArr r then kT f ps K n 2 r.tail else andThen (must kInt r) fun _ r4=>kT f ps K n 1 r4
def kP {γ:Type} (f:Nat) (ps:List (List UInt8×Int)) (K:List (List UInt8×Int)→List Tok→PR γ) (n:List UInt8) (r:List Tok):PR γ:=andThen (must [58] r) fun _ r3=>kS f ps K n r3
def kN {γ:Type} (f:Nat) (ps:List (List UInt8×Int)) (K:List (List UInt8×Int)→List Tok→PR γ) (r:List Tok):PR γ:=andThen (nameP r) (kP f ps K)
theorem params_next {γ:Type} (f:Nat) (first:Bool) (l:List (List UInt8×Int)) (ts:List Tok) (K:List (List UInt8×Int)→List Tok→PR γ) :
  andThen (paramsF (f+1) first l ts) K=if seeB [41] ts then K l ts.tail else andThen (if first then okP () ts else must [44] ts) fun _ r=>kN f l K r:=params_step f first l ts K
def Tp {γ:Type} (x:Except (Int×Int) (γ×List Tok)) (K:List (List UInt8×Int)→List Tok→PR γ) (first:Bool) (k:Nat) (pvs:List Value):Except (Int×Int) (List Tok)→Prop
 | .ok r=>∃ ff ps,ps.length=k∧pvs=pcells ps∧ps.length+r.length≤10000000∧andThen (paramsF ff first ps r) K=some x
 | .error e=>x=.error e
def InAt (w3:World) (b:Nat) (S:Nat→Prop) (x:Except (Int×Int) (List Fn×List Tok)) (K:List (List UInt8×Int)→List Tok→PR (List Fn)) (n:List UInt8) (ta:Int) (m:Nat) (fv:Value) (wr:World):Prop :=
 ∃ first pv k pvs z,fv=.bool first∧Ps w3 wr b S [str n,.int .i64 ta,pv,.slice none 0 0] pv k pvs∧Rx wr b z∧zm z≤m∧Tp x K first k pvs z
def Fin (w:World) (S:Nat→Prop) (f:Nat) (l:List Fn) (n:List UInt8) (ta:Int) (x:Except (Int×Int) (List Fn×List Tok)) (cs:List Value):Except (Int×Int) (List Tok)→Prop
 | .ok r=>∃ ps bl,FnAt w S ⟨n,ta,ps,bl⟩ cs∧programF (f+1) (l++[⟨n,ta,ps,bl⟩]) r=some x
 | .error e=>x=.error e
def dropRest:Except (Int×Int) (List Fn×List Tok)→Except (Int×Int) (List Fn)
 | .ok (l,_)=>.ok l
 | .error e=>.error e
set_option maxRecDepth 100000 in
set_option maxHeartbeats 4000000 in
theorem parse_run (s:List UInt8) (f fp:Nat) (ts:List Tok) (x:Except (Int×Int) (List Fn×List Tok)) (W:World) (hL:Lies W) (hlen:s.length≤10000000) (hx:lexF f s 0 0=some (.ok ts)) (hp:programF fp [] ts=some x) :
  Calls Tryz.prog 15 #[str s] W (Parsed W (dropRest x)):=by
 have HM:=hiD ((Mods.refl None W).alloc (.cells #[.int .i64 0,.int .i64 0] 40))
 have HC:=hiD (fun (w:World) (hm:Mods None W w)=>tokens_any s W.heap.size f _ w (hL.fine.far hm (fun _ f=>f.elim)) (hL.most.far hm (fun _ f=>f.elim)) hlen hx)
 have HP:=hiD hp
 have HL:=hiD hL
 have HA0:=hiD (Blk.new W #[.int .i64 0,.int .i64 0] 40)
 obtain ⟨i0,hi,hz0,hz1,hz2⟩:=info_parts func_info
 have HI:=hiD (⟨hi,hz0,hz1,hz2⟩:_∧_∧_∧_)
 obtain ⟨j0,hj,hj0,hj1,hj2⟩:=info_parts param_info
 have HJ:=hiD (⟨hj,hj0,hj1,hj2⟩:_∧_∧_∧_)
 clear hL hx hp hi hz0 hz1 hz2 hj hj0 hj1 hj2
 unfold str at *
 go_enter Tryz.func15,Tryz.ntmps15
 go_wp2_with fail
 go_at_call 41
 refine (HC.out _ HM.out).mono ?_
 rintro e w1 ⟨g,c,rfl,hcap,hmax,hl2,hgl,htoks,hends,hmade,hm⟩
 have HA1:=hiD (HA0.out.mods hm (fun f=>f))
 have HM1:=hiD (HM.out.trans hm)
 have HT1:=hiD (⟨hcap,hmax,hl2,hgl,htoks,hends,hmade⟩:_∧_∧_∧_∧_∧_∧_)
 have hff:FineAt w1 W.heap.size:=HL.out.fine.far HM1.out (fun _ f=>f.elim)
 obtain ⟨-,f0,f1⟩:=hff
 have hne:=neq_fine
 have hflt:=World.block_lt_of_cell? w1 _ f1
 simp only at hflt
 clear hm hcap hmax hl2 hgl htoks hends hmade HM HC HA0
 go_wp2_with fail
 have hm2:Mods None w1 ((w1.alloc (.cells #[.int .i64 0,.int .i64 (-1)] 40)).alloc (.cells #[.slice (some ⟨g,0,none⟩) ts.length c,.int .i64 0,.int .i64 (-1)] 93)):=((Mods.refl _ _).alloc _).alloc _
 have hR2:=Blk.new (w1.alloc (.cells #[.int .i64 0,.int .i64 (-1)] 40)) #[.slice (some ⟨g,0,none⟩) ts.length c,.int .i64 0,.int .i64 (-1)] 93
 rw [show (w1.alloc (.cells #[.int .i64 0,.int .i64 (-1)] 40)).heap.size=w1.heap.size+1 by simp] at hR2
 have hMW:=HM1.out.trans hm2
 have hlA:=HA1.out.lt
 have hRd:Rx ((w1.alloc (.cells #[.int .i64 0,.int .i64 (-1)] 40)).alloc (.cells #[.slice (some ⟨g,0,none⟩) ts.length c,.int .i64 0,.int .i64 (-1)] 93)) (w1.heap.size+1) (.ok ts):=by
  obtain ⟨hcap,hmax,hl2,hgl,htoks,hends,hmade⟩:=HT1.out
  have hl0:=HL.out
  refine ⟨⟨g,0,c,hR2,hcap,hmax,by omega,by omega,htoks.mods hm2 (fun f=>f),hends,fun t ht=>(hmade t ht).1,fun t ht=>(hmade t ht).2⟩,⟨?_,?_,?_,rfl,?_⟩⟩
  ·obtain ⟨h1,h2,h3⟩:=hl0.fine.far hMW (fun _ f=>f.elim)
   exact ⟨by omega,h2,h3⟩
  ·obtain ⟨h1,m,h2⟩:=hl0.most.far hMW (fun _ f=>f.elim)
   exact ⟨by omega,m,h2⟩
  ·obtain ⟨h1,t,p,h2⟩:=hl0.rng
   exact ⟨by omega,t,p,hMW.cellOf h2 (fun f=>f)⟩
  ·rintro k rfl
   have:=hR2.lt
   omega
 have HS:Hid (OutAt fp W (w1.heap.size+1) x nilS ((w1.alloc (.cells #[.int .i64 0,.int .i64 (-1)] 40)).alloc (.cells #[.slice (some ⟨g,0,none⟩) ts.length c,.int .i64 0,.int .i64 (-1)] 93))):=hiD ⟨0,[],.ok ts,by omega,⟨HA1.out.mods hm2 (fun f=>f),⟨World.ownsRow_nil _ _ _ _,by have:=hR2.lt;omega,by rintro k (rfl|rfl) <;> omega⟩,hMW,by omega⟩,hRd,⟨fp,[],Nat.le_refl _,rfl,rfl,HP.out⟩⟩
 clear hm2 hR2 hMW hRd hlA hflt f0 f1 hne HA1 HM1 HT1 HP
 obtain ⟨w2,hw2⟩:∃ q,q=(w1.alloc (.cells #[.int .i64 0,.int .i64 (-1)] 40)).alloc (.cells #[.slice (some ⟨g,0,none⟩) ts.length c,.int .i64 0,.int .i64 (-1)] 93):=⟨_,rfl⟩
 obtain ⟨b,hb⟩:∃ q,q=w1.heap.size+1:=⟨_,rfl⟩
 rw [← hw2,← hb] at HS
 rw [← hw2]
 try rw [← hb]
 clear hw2 hb
 go_loopw [7] (fun lv wr=>OutAt fp W b x lv wr) (fun _ wr=>lenB wr b)
 case atStart=>exact HS.out
 case round =>
  clear HS
  obtain ⟨k,vs,z,hk,hd,hz,ht⟩:=hrel
  obtain ⟨oa,oc,rfl⟩:=lex_form hd.row.row
  have HD:=hiD hd
  have HZ:=hiD hz
  have HT:=hiD ht
  have HK:=hiD hk
  clear hd ht hk
  cases z with
  | error e =>
   obtain ⟨n,a⟩:=e
   clear hz
   go_wp2_with fail
   go_at_call 42
   refine (ok_n HZ.out).mono ?_
   rintro e w3 ⟨rfl,hz,hm⟩
   have HZ3:=hiD hz
   have HD3:=hiD (HD.out.quiet hm)
   clear hz hm HD HZ
   go_wp2_with fail
   go_at_call 42
   refine (ok_n HZ3.out).mono ?_
   rintro e w4 ⟨rfl,hz,hm⟩
   have HD4:=hiD (HD3.out.quiet hm)
   obtain ⟨g4,o4,c4,ts4,hra,h34⟩:=Rb.bad hz
   have c1:=hra.blk.cell (i:=1) rfl
   have c2:=hra.blk.cell (i:=2) rfl
   have r0:=HD4.out.res.cell (i:=0) rfl
   have r1:=HD4.out.res.cell (i:=1) rfl
   have q0:=HD4.out.res.free 0
   have q1:=HD4.out.res.free 1
   have ql:=HD4.out.res.lt
   have H34:=hiD h34
   clear hz hm HZ3 HD3 hra h34
   go_wp2_with fail
   go_region
   go_wp2
   have hbk:=blk_put (ds:=[.int .i64 n,.int .i64 a]) (blk_put (ds:=[.int .i64 n,.int .i64 0]) HD4.out.res 0 (.int .i64 n) rfl) 1 (.int .i64 a) rfl
   have s0:=hbk.cell (i:=0) rfl
   have s1:=hbk.cell (i:=1) rfl
   refine bodyPost_ret (v:=.tuple #[.slice none 0 0,.agg #[.int .i64 n,.int .i64 a]]) (by simp [results,Tryz.results15,go_sem,s0,s1]) rfl ?_
   have hx:x=.error (n,a):=HT.out
   rw [hx]
   exact ⟨rfl,H34.out,HD4.out.mods.trans' (((mods_put w4 W.heap.size 0 _).trans (mods_put _ W.heap.size 1 _)).drew) (by rintro k rfl hk;omega)⟩
  | ok r =>
   obtain ⟨ff,l,hff,hlk,hfs,hpr⟩:=HT.out
   have HFS:=hiD hfs
   have HLK:=hiD hlk
   clear hfs HT
   obtain ⟨t,rr,hr⟩:=ends_cons (Rd.par hz).ends
   have hkind:headKind r=t.kind:=by rw [hr];rfl
   have hat:headAt r=t.at_:=by rw [hr];rfl
   obtain ⟨tk,tt,ta⟩:=t
   simp only at hkind hat
   clear hz
   cases ff with
   | zero=>simp [programF] at hpr
   | succ f1 =>
   go_wp2_with fail
   go_at_call 42
   refine (ok_x HZ.out).mono ?_
   rintro e w3 ⟨rfl,hz,hm⟩
   have HZ3:=hiD hz
   have HD3:=hiD (HD.out.quiet hm)
   have HFS:=hiD (FnsAt.modsTo (hm.mono fun _ _ f=>f.elim) (fun _ _ h=>h) _ _ HFS.out)
   obtain ⟨g3,o3,c3,hra⟩:=Rd.par hz
   rw [hr] at hra
   have hl:=hra.cl
   have hk0:=hra.ck
   have ha0:=hra.ca
   have hcap:=hra.cap
   have hmax:=hra.max
   simp only [List.length_cons] at hcap
   simp only at hk0 ha0
   have HRR:=hiD hr
   clear hra hm HD hz hr
   by_cases h4:tk=4
   ·subst h4
    rw [programF,if_pos hkind] at hpr
    obtain rfl:=(Option.some.inj hpr).symm
    clear hpr hat hkind
    go_wp2_with fail
    go_at_call 42
    refine (ok_x HZ3.out).mono ?_
    rintro e w4 ⟨rfl,hz,hm⟩
    have HD4:=hiD (HD3.out.quiet hm)
    have HFS4:=hiD (FnsAt.modsTo (hm.mono fun _ _ f=>f.elim) (fun _ _ h=>h) _ _ HFS.out)
    obtain ⟨hfl,f0,f1c⟩:=(Rd.base hz).fine
    have r0:=HD4.out.res.cell (i:=0) rfl
    have r1:=HD4.out.res.cell (i:=1) rfl
    have q0:=HD4.out.res.free 0
    have q1:=HD4.out.res.free 1
    have ql:=HD4.out.res.lt
    have hflt:=World.block_lt_of_cell? w4 _ f1c
    simp only at hflt
    clear hz hm HZ3 HD3 HFS hl hk0 ha0 hcap hmax
    go_wp2_with fail
    go_region
    go_wp2
    have hbk:=blk_put (ds:=[.int .i64 0,.int .i64 (-1)]) (blk_put (ds:=[.int .i64 0,.int .i64 0]) HD4.out.res 0 (.int .i64 0) rfl) 1 (.int .i64 (-1)) rfl
    have s0:=hbk.cell (i:=0) rfl
    have s1:=hbk.cell (i:=1) rfl
    refine bodyPost_ret (v:=.tuple #[.slice oa k oc,.agg #[.int .i64 0,.int .i64 (-1)]]) (by simp [results,Tryz.results15,go_sem,s0,s1]) rfl ?_
    have hmf:=((mods_put w4 W.heap.size 0 (.int .i64 0)).trans (mods_put _ W.heap.size 1 (.int .i64 (-1)))).drew
    have hrow:=HD4.out.row.rowAt
    have hmo:=hmf.mono (T:=Own (PB W.heap.size b) (.slice oa k oc)) (fun i _ hi=>Or.inl (Or.inr hi))
    refine ⟨.slice oa k oc,vs,rfl,?_,FnsAt.modsTo hmo (fun _ _ f=>f.elim) _ _ HFS4.out,HD4.out.mods.trans' hmf (by rintro i rfl hi;omega)⟩
    rw [HLK.out]
    exact hrow.mods (hmf.mono fun i _ hi=>Or.inr hi) (fun _ _ f=>f.elim)
   ·have hk4:¬ headKind r=4:=by rw [hkind];exact h4
    by_cases h12:l.length=12
    ·rw [programF,if_neg hk4,if_pos h12] at hpr
     have hk12:(12:Int)≤(k:Int):=by omega
     have HPR:=hiD hpr
     clear hpr hat hkind hk4 h12 hlk ha0
     go_wp2_with fail
     go_at_call 43
     refine (fails_any b (·=b) 4 r w3 HZ3.out (Or.inr rfl)).mono ?_
     rintro e w5 ⟨rfl,hbad,hm⟩
     obtain ⟨n,a,hn,ha⟩:∃ n a:Int,n=4∧a=headAt r:=⟨_,_,rfl,rfl⟩
     rw [← hn,← ha] at hbad
     have HT:Hid (x=.error (n,a)):=hiD (by rw [hn,ha];exact (Option.some.inj HPR.out).symm)
     have HZ3:Hid (Rx w5 b (.error (n,a))):=hiD hbad
     have HD3:=hiD (HD3.out.next hm)
     clear hbad hm hn ha HPR hl hk0 hcap hmax
     go_wp2_with fail
     go_at_call 42
     refine (ok_n HZ3.out).mono ?_
     rintro e w4 ⟨rfl,hz,hm⟩
     have HD4:=hiD (HD3.out.quiet hm)
     obtain ⟨g4,o4,c4,ts4,hra,h34⟩:=Rb.bad hz
     have c1:=hra.blk.cell (i:=1) rfl
     have c2:=hra.blk.cell (i:=2) rfl
     have r0:=HD4.out.res.cell (i:=0) rfl
     have r1:=HD4.out.res.cell (i:=1) rfl
     have q0:=HD4.out.res.free 0
     have q1:=HD4.out.res.free 1
     have ql:=HD4.out.res.lt
     have H34:=hiD h34
     clear hz hm HZ3 HD3 hra h34
     go_wp2_with fail
     go_region
     go_wp2
     have hbk:=blk_put (ds:=[.int .i64 n,.int .i64 a]) (blk_put (ds:=[.int .i64 n,.int .i64 0]) HD4.out.res 0 (.int .i64 n) rfl) 1 (.int .i64 a) rfl
     have s0:=hbk.cell (i:=0) rfl
     have s1:=hbk.cell (i:=1) rfl
     refine bodyPost_ret (v:=.tuple #[.slice none 0 0,.agg #[.int .i64 n,.int .i64 a]]) (by simp [results,Tryz.results15,go_sem,s0,s1]) rfl ?_
     have hx:x=.error (n,a):=HT.out
     rw [hx]
     exact ⟨rfl,H34.out,HD4.out.mods.trans' (((mods_put w4 W.heap.size 0 _).trans (mods_put _ W.heap.size 1 _)).drew) (by rintro k rfl hk;omega)⟩
    ·cases f1 with
     | zero=>simp [programF,functionF,hk4,h12,andThen] at hpr
     | succ f2 =>
     rw [program_step f2 l r hk4 h12,hat] at hpr
     have hk12:¬ (12:Int)≤(k:Int):=by have:=HK.out;omega
     have HK12:Hid (k+1≤12):=hiD (by have:=HK.out;omega)
     have HLE:Hid (f2+1≤fp):=hiD (by omega)
     have HX:=hiD hpr
     have HRL:Hid (r.length≤10000000):=hiD (Rd.par HZ3.out).short
     clear hpr hat hkind hk4 h12 hlk hff
     go_wp2_with fail
     go_at_call 44
     have H0:=hiD (Fs.start (Rx.lt HZ3.out) #[.string ⟨#[]⟩,.int .i64 ta,.slice none 0 0,.slice none 0 0])
     have HZ4:=hiD (HZ3.out.quiet ((Mods.refl None w3).alloc (.cells #[.string ⟨#[]⟩,.int .i64 ta,.slice none 0 0,.slice none 0 0] 33)))
     obtain ⟨w4,hw4⟩:∃ q,q=w3.alloc (.cells #[.string ⟨#[]⟩,.int .i64 ta,.slice none 0 0,.slice none 0 0] 33):=⟨_,rfl⟩
     rw [← hw4] at H0 HZ4 ⊢
     clear hw4 hl hk0 ha0 hcap hmax
     refine (must_x (k:=kA f2 l ta) (s:=kFn) (z:=.ok r) HZ4.out HX.out).mono ?_
     rintro e w5 ⟨rfl,z5,hz5,hx5,hm5,hq5⟩
     have H5:=hiD (H0.out.next hq5)
     have HZ5:=hiD hz5
     have HX5:=hiD hx5
     have HM5:Hid (zm z5≤r.length):=hiD (by simpa [zm] using hm5)
     clear hz5 hx5 hm5 hq5 H0 HZ4 HX
     go_wp2_with fail
     go_at_call 42
     refine (ok_b HZ5.out).mono ?_
     rintro e w6 ⟨rfl,hz6,hq6⟩
     have H6:=hiD (H5.out.quiet hq6)
     have HZ6:=hiD hz6
     obtain ⟨ob,hob⟩:∃ o,o=isOk z5:=⟨_,rfl⟩
     rw [← hob]
     have HOB:=hiD hob
     clear hz6 hq6 H5 HZ5 hob
     go_upto_if 52 with (fail)
     go_cut [] (fun w=>∃ (nm:List UInt8) (z:Except (Int×Int) (List Tok)),Hid (Fs w3 w b [str nm,.int .i64 ta,.slice none 0 0,.slice none 0 0])∧Hid (Rx w b z)∧Hid (kont (kB f2 l ta nm) z=some x)∧Hid (zm z≤r.length))
     case first =>
      cases ob
      ·cases z5 with
       | ok r5=>exact absurd HOB.out (by simp [isOk])
       | error e =>
       go_wp2_with fail
       go_meet
       case rel=>exact ⟨[],.error e,H6,HZ6,HX5,HM5⟩
      ·cases z5 with
       | error e=>exact absurd HOB.out (by simp [isOk])
       | ok r5 =>
       go_wp2_with fail
       go_at_call 45
       refine (name_x HZ6.out HX5.out).mono ?_
       rintro e w7 ⟨nm,rfl,z7,hz7,hx7,hm7,hq7⟩
       have H7:=hiD (H6.out.next hq7)
       have HZ7:=hiD hz7
       have HX7:=hiD hx7
       have HM7:Hid (zm z7≤r.length):=hiD (by have:=HM5.out;simp only [zm] at this;omega)
       have c0:=H7.out.own.cell (i:=0) rfl
       have f0:=H7.out.own.free 0
       have hl0:=H7.out.own.lt
       clear hz7 hx7 hm7 hq7
       go_wp2_with fail
       go_meet
       case rel=>exact ⟨nm,z7,hiD (H7.out.put (ds:=[str nm,.int .i64 ta,.slice none 0 0,.slice none 0 0]) 0 (.string ⟨nm.toArray⟩) rfl),hiD (HZ7.out.put H7.out.lt 0 _),HX7,HM7⟩
     case rest =>
     clear H6 HZ6 HOB HX5 HM5
     obtain ⟨nm,z6,H6,HZ6,HX6,HM6⟩:=hcut
     go_wp2_with fail
     go_at_call 44
     refine (must_x (s:=[40]) HZ6.out HX6.out).mono ?_
     rintro e w7 ⟨rfl,z7,hz7,hx7,hm7,hq7⟩
     have H7:=hiD (H6.out.next hq7)
     have HZ7:=hiD hz7
     have HX7:=hiD hx7
     have HM7:Hid (zm z7≤r.length):=hiD (by have:=HM6.out;omega)
     clear hz7 hx7 hm7 hq7 H6 HZ6 HX6 HM6
     have HIN:Hid (InAt w3 b (Own (PB W.heap.size b) (.slice oa k oc)) x (kC f2 l ta nm) nm ta r.length (.bool true) w7):=hiD (by
      refine ⟨true,.slice none 0 0,0,[],z7,rfl,⟨H7.out,⟨World.ownsRow_nil _ _ _ _,by have:=H7.out.own.lt;omega,?_⟩,Or.inl (Or.inl rfl)⟩,HZ7.out,HM7.out,?_⟩
      ·rintro i (hi|rfl)
       ·rcases hi with (rfl|rfl)|hi
        ·have:=H7.out.lt;omega
        ·have:=HD3.out.lt;have:=H7.out.lt;omega
        ·have:=(HD3.out.row.row.lt _ hi).2;omega
       ·omega
      ·have hx:=HX7.out
       cases z7 with
       | error e=>exact (Option.some.inj hx).symm
       | ok r7=>exact ⟨f2,[],rfl,rfl,by have:=HM7.out;have:=HRL.out;simp [zm] at *;omega,hx⟩)
     clear H7 HZ7 HX7 HM7
     go_wp2_with fail
     go_loopw [9] (fun fv wr=>InAt w3 b (Own (PB W.heap.size b) (.slice oa k oc)) x (kC f2 l ta nm) nm ta r.length fv wr) (fun _ wr=>lenB wr b)
     case atStart=>exact HIN.out
     case round =>
      clear HIN
      obtain ⟨first,pv,pk,pvs,z,rfl,hps,hz,hzm,htp⟩:=hrel
      obtain ⟨pa,pc,rfl⟩:=lex_form hps.row.row
      have HPS:=hiD hps
      have HZA:=hiD hz
      have HZM:=hiD hzm
      have HTP:=hiD htp
      clear hps hz hzm htp
      cases z with
      | error e =>
       obtain ⟨n,a⟩:=e
       go_wp2_with fail
       go_at_call 42
       refine (ok_n HZA.out).mono ?_
       rintro e w9 ⟨rfl,hz9,hq9⟩
       have HPS9:=hiD (HPS.out.quiet hq9)
       have HZ9:=hiD hz9
       clear hz9 hq9 HPS HZA
       go_wp2_with fail
       go_at_call 42
       refine (ok_n HZ9.out).mono ?_
       rintro e wz ⟨rfl,hz9,hq9⟩
       obtain ⟨ba,bn,bc,hb1,hb2,hb3⟩:∃ (ba:Option Addr) (bn bc:Nat),ba=none∧bn=0∧bc=0:=⟨_,_,_,rfl,rfl,rfl⟩
       have HPSz:=hiD (HPS9.out.quiet hq9)
       rw [← hb1] at HPSz
       have HFz:Hid (Fs w3 wz b [.string ⟨nm.toArray⟩,.int .i64 ta,.slice pa pk pc,.slice ba bn bc]):=hiD (by
        have:=HPSz.out.fs
        rw [hb1,hb2,hb3]
        rw [hb1] at this
        exact this)
       obtain ⟨zz,hzz⟩:∃ z:Except (Int×Int) (List Tok),z=.error (n,a):=⟨_,rfl⟩
       have HZz:Hid (Rx wz b zz):=hiD (by rw [hzz];exact hz9)
       have HFin:Hid (Fin wz (FS (Own (PB W.heap.size b) (.slice oa k oc)) w3.heap.size) f2 l nm ta x [.string ⟨nm.toArray⟩,.int .i64 ta,.slice pa pk pc,.slice ba bn bc] zz):=hiD (by rw [hzz];exact HTP.out)
       have HZL:Hid (zm zz<zm (.ok r:Except (Int×Int) (List Tok))):=hiD (by rw [hzz];exact Nat.succ_pos _)
       clear hz9 hq9 HPS9 HZ9 hb1 hb2 hb3 hzz HTP HZM HPSz
       have HMA:=hiD ((Mods.refl None wz).alloc (.cells #[.string ⟨nm.toArray⟩,.int .i64 ta,.slice pa pk pc,.slice ba bn bc] 33))
       have HDA:=hiD ((HD3.out.next HFz.out.mods).quiet HMA.out)
       have d0:=HFz.out.own.cell (i:=0) rfl
       have d1:=HFz.out.own.cell (i:=1) rfl
       have d2:=HFz.out.own.cell (i:=2) rfl
       have d3:=HFz.out.own.cell (i:=3) rfl
       go_wp2_with (at_builtin;refine wpList_append_own_at _ rfl _ _ 23 rfl (b+1) 33 i0 _ 4 72 Tryz.underlying23 HI.out.1 HI.out.2.1 HI.out.2.2.1 HI.out.2.2.2 rfl (by decide) (.slice oa k oc) k vs rfl HDA.out.row.row ⟨wz.heap.size,0,none⟩ 1 1 [.string ⟨nm.toArray⟩,.int .i64 ta,.slice pa pk pc,.slice ba bn bc] rfl rfl (four_new _ _ _ _ _ _) (fcells_one _ _ _ _ _ _ _ _) (by have:=HK.out;unfold maxLen;omega) (by have:=HK.out;omega) HDA.out.row.base ?_;intro v' w20 hown hgrow hnil hloc;have HGR:Hid (Grew (wz.alloc (.cells #[.string ⟨nm.toArray⟩,.int .i64 ta,.slice pa pk pc,.slice ba bn bc] 33)) w20 (.slice oa k oc) v'):=hiD (grew_of hgrow hloc);have HOW:=hiD (HDA.out.row.grew HGR.out hown);clear hown hgrow hnil hloc;refine Hid.out ?_)
       refine hiD ?_
       have hlz:∀ i,(Value.slice oa k oc).ownBlock=some i→b<i:=fun i hi=>by have:=(HDA.out.row.row.lt i hi).1;omega
       have hW:=HDA.out.lt
       have hZ6:Rx w20 b zz:=(HZz.out.quiet HMA.out).far HGR.out.mods hlz
       have hS3:Mods (Own (PB W.heap.size b) (.slice oa k oc)) w3 (wz.alloc (.cells #[.string ⟨nm.toArray⟩,.int .i64 ta,.slice pa pk pc,.slice ba bn bc] 33)):=(HFz.out.mods.mono fun i _ hi=>Or.inl (Or.inl hi)).trans (HMA.out.mono fun _ _ f=>f.elim)
       go_wp2_with fail
       refine ⟨⟨k+1,vs++[.string ⟨nm.toArray⟩,.int .i64 ta,.slice pa pk pc,.slice ba bn bc],zz,HK12.out,⟨HDA.out.res.mods HGR.out.mods (fun hi=>by have:=hlz _ hi;omega),HOW.out,HDA.out.mods.trans' HGR.out.mods (fun i hi hl=>by have:=hlz _ hi;omega),hW⟩,hZ6,?_⟩,?_⟩
       ·have hfin:=HFin.out
        cases zz with
        | error e=>exact hfin
        | ok r9 =>
         obtain ⟨ps,bl,hfn,hx9⟩:=hfin
         refine ⟨f2+1,l++[⟨nm,ta,ps,bl⟩],HLE.out,by simp [HLK.out],?_,hx9⟩
         exact FnsAt.append (FnsAt.modsTo HGR.out.own HGR.out.to _ _ (FnsAt.modsTo hS3 (fun _ _ h=>h) _ _ HFS.out)) (FnAt.modsTo (FnAt.modsTo hfn (HMA.out.mono fun _ _ f=>f.elim) (fun _ _ h=>Or.inl h)) HGR.out.own HGR.out.to)
       ·rw [hZ6.lenB,HZ.out.lenB]
        exact HZL.out
      | ok r8 =>
       obtain ⟨ff,ps,hpk,hpv,hpn,hpx⟩:=HTP.out
       subst hpk
       subst hpv
       clear HTP
       cases ff with
       | zero=>simp [paramsF,andThen] at hpx
       | succ ff =>
       rw [params_next] at hpx
       have HX:=hiD hpx
       have HPN:=hiD hpn
       clear hpx hpn
       go_wp2_with fail
       go_at_call 42
       refine (ok_x HZA.out).mono ?_
       rintro e w9 ⟨rfl,hz9,hq9⟩
       have HPS9:=hiD (HPS.out.quiet hq9)
       have HZ9:=hiD hz9
       clear hz9 hq9 HPS
       go_wp2_with fail
       go_at_call 46
       refine take_of (s:=[41]) (hiD (Mods.refl _ _)) (hiD (show Rd w9 b (·=b) r8 from HZ9.out)) HX ?_ ?_
       ·clear HX
        rintro-HXY w10 HR10 hm10 -
        have HPS10:=hiD (HPS9.out.next hm10.out)
        have HZ10:Hid (Rx w10 b (.ok r8.tail)):=hiD HR10.out
        clear HR10 hm10 HPS9 HZ9
        go_wp2_with fail
        go_at_call 42
        refine (ok_x HZ10.out).mono ?_
        rintro e w11 ⟨rfl,hz11,hq11⟩
        have HPS11:=hiD (HPS10.out.quiet hq11)
        have HZ11:=hiD hz11
        clear hz11 hq11 HPS10 HZ10
        go_wp2_with fail
        go_at_call 47
        refine (block_x (T:=FS (Own (PB W.heap.size b) (.slice oa k oc)) w3.heap.size) (f:=f2) (k:=kD f2 l ta nm ps) HZ11.out (Or.inl (Or.inl (Or.inl rfl))) (fun i hi=>by have h1:=HPS11.out.row.below i hi;have h2:=HPS11.out.row.base;omega) HXY.out).mono ?_
        rintro e wy ⟨ba,bn,bc,zz,rfl,hzz,hblk,hzl,hqy⟩
        have HPSy:=hiD (HPS11.out.next hqy)
        have HZy:=hiD hzz
        have HBL:=hiD hblk
        have c3:=HPSy.out.fs.own.cell (i:=3) rfl
        have f3:=HPSy.out.fs.own.free 3
        have hl3:=HPSy.out.fs.own.lt
        have HZL:Hid (zm zz<zm (.ok r:Except (Int×Int) (List Tok))):=hiD (by have:=HZM.out;simp only [zm,List.length_tail] at *;omega)
        clear hzz hblk hzl hqy HPS11 HZ11 HXY
        go_upto_region 30 with (fail)
        clear c3 f3 hl3
        have hmp:=mods_put wy w3.heap.size 3 (.slice ba bn bc)
        have HFz:=hiD (HPSy.out.fs.put (ds:=[.string ⟨nm.toArray⟩,.int .i64 ta,.slice pa ps.length pc,.slice ba bn bc]) 3 (.slice ba bn bc) rfl)
        have HZz:=hiD (HZy.out.put HPSy.out.fs.lt 3 (.slice ba bn bc))
        have HFin:Hid (Fin (wy.setCell ⟨w3.heap.size,3,none⟩ (.slice ba bn bc)) (FS (Own (PB W.heap.size b) (.slice oa k oc)) w3.heap.size) f2 l nm ta x [.string ⟨nm.toArray⟩,.int .i64 ta,.slice pa ps.length pc,.slice ba bn bc] zz):=hiD (by
         have hb:=HBL.out
         cases zz with
         | error e=>exact hb
         | ok r9 =>
          obtain ⟨bl,hx9,vq,hrow,hsts⟩:=hb
          have hmo:=hmp.mono (T:=FS (Own (PB W.heap.size b) (.slice oa k oc)) w3.heap.size) (fun i _ hi=>Or.inr hi)
          exact ⟨ps,bl,⟨_,_,vq,rfl,HPSy.out.row.rowAt.mods hmo (fun _ _ h=>h),hrow.mods hmo (fun _ _ h=>h),StsAt.modsTo hmo (fun _ _ h=>h) _ _ hsts⟩,hx9⟩)
        obtain ⟨wz,hwz⟩:∃ q,q=wy.setCell ⟨w3.heap.size,3,none⟩ (.slice ba bn bc):=⟨_,rfl⟩
        rw [← hwz] at HFz HZz HFin ⊢
        clear hwz hmp HPSy HZy HBL
        have HMA:=hiD ((Mods.refl None wz).alloc (.cells #[.string ⟨nm.toArray⟩,.int .i64 ta,.slice pa ps.length pc,.slice ba bn bc] 33))
        have HDA:=hiD ((HD3.out.next HFz.out.mods).quiet HMA.out)
        have d0:=HFz.out.own.cell (i:=0) rfl
        have d1:=HFz.out.own.cell (i:=1) rfl
        have d2:=HFz.out.own.cell (i:=2) rfl
        have d3:=HFz.out.own.cell (i:=3) rfl
        go_wp2_with (at_builtin;refine wpList_append_own_at _ rfl _ _ 23 rfl (b+1) 33 i0 _ 4 72 Tryz.underlying23 HI.out.1 HI.out.2.1 HI.out.2.2.1 HI.out.2.2.2 rfl (by decide) (.slice oa k oc) k vs rfl HDA.out.row.row ⟨wz.heap.size,0,none⟩ 1 1 [.string ⟨nm.toArray⟩,.int .i64 ta,.slice pa ps.length pc,.slice ba bn bc] rfl rfl (four_new _ _ _ _ _ _) (fcells_one _ _ _ _ _ _ _ _) (by have:=HK.out;unfold maxLen;omega) (by have:=HK.out;omega) HDA.out.row.base ?_;intro v' w20 hown hgrow hnil hloc;have HGR:Hid (Grew (wz.alloc (.cells #[.string ⟨nm.toArray⟩,.int .i64 ta,.slice pa ps.length pc,.slice ba bn bc] 33)) w20 (.slice oa k oc) v'):=hiD (grew_of hgrow hloc);have HOW:=hiD (HDA.out.row.grew HGR.out hown);clear hown hgrow hnil hloc;refine Hid.out ?_)
        refine hiD ?_
        have hlz:∀ i,(Value.slice oa k oc).ownBlock=some i→b<i:=fun i hi=>by have:=(HDA.out.row.row.lt i hi).1;omega
        have hW:=HDA.out.lt
        have hZ6:Rx w20 b zz:=(HZz.out.quiet HMA.out).far HGR.out.mods hlz
        have hS3:Mods (Own (PB W.heap.size b) (.slice oa k oc)) w3 (wz.alloc (.cells #[.string ⟨nm.toArray⟩,.int .i64 ta,.slice pa ps.length pc,.slice ba bn bc] 33)):=(HFz.out.mods.mono fun i _ hi=>Or.inl (Or.inl hi)).trans (HMA.out.mono fun _ _ f=>f.elim)
        go_wp2_with fail
        refine ⟨⟨k+1,vs++[.string ⟨nm.toArray⟩,.int .i64 ta,.slice pa ps.length pc,.slice ba bn bc],zz,HK12.out,⟨HDA.out.res.mods HGR.out.mods (fun hi=>by have:=hlz _ hi;omega),HOW.out,HDA.out.mods.trans' HGR.out.mods (fun i hi hl=>by have:=hlz _ hi;omega),hW⟩,hZ6,?_⟩,?_⟩
        ·have hfin:=HFin.out
         cases zz with
         | error e=>exact hfin
         | ok r9 =>
          obtain ⟨ps,bl,hfn,hx9⟩:=hfin
          refine ⟨f2+1,l++[⟨nm,ta,ps,bl⟩],HLE.out,by simp [HLK.out],?_,hx9⟩
          exact FnsAt.append (FnsAt.modsTo HGR.out.own HGR.out.to _ _ (FnsAt.modsTo hS3 (fun _ _ h=>h) _ _ HFS.out)) (FnAt.modsTo (FnAt.modsTo hfn (HMA.out.mono fun _ _ f=>f.elim) (fun _ _ h=>Or.inl h)) HGR.out.own HGR.out.to)
        ·rw [hZ6.lenB,HZ.out.lenB]
         exact HZL.out
       ·clear HX
        rintro-HXN w10 HR10 hm10 -
        have HPS10:=hiD (HPS9.out.quiet hm10.out)
        have HZ10:Hid (Rx w10 b (.ok r8)):=hiD HR10.out
        clear HR10 hm10 HPS9 HZ9
        go_upto_if 66 with (fail)
        go_cut [9] (fun fv w=>∃ (z:Except (Int×Int) (List Tok)),Hid (Ps w3 w b (Own (PB W.heap.size b) (.slice oa k oc)) [str nm,.int .i64 ta,.slice pa ps.length pc,.slice none 0 0] (.slice pa ps.length pc) ps.length (pcells ps))∧Hid (Rx w b z)∧Hid (kont (kN ff ps (kC f2 l ta nm)) z=some x)∧Hid (zm z≤r8.length+1))
        case first =>
         cases first
         ·go_wp2_with fail
          go_at_call 44
          refine (must_x (s:=[44]) (z:=.ok r8) (k:=kN ff ps (kC f2 l ta nm)) HZ10.out HXN.out).mono ?_
          rintro e w11 ⟨rfl,z11,hz11,hx11,hm11,hq11⟩
          have HPS11:=hiD (HPS10.out.next hq11)
          have HZ11:=hiD hz11
          have HX11:=hiD hx11
          have HM11:Hid (zm z11≤r8.length+1):=hiD (by have h:zm (.ok r8:Except (Int×Int) (List Tok))=r8.length+1:=rfl;rw [h] at hm11;omega)
          clear hz11 hx11 hm11 hq11
          go_wp2_with fail
          go_meet
          case rel=>exact ⟨z11,HPS11,HZ11,HX11,HM11⟩
         ·go_wp2_with fail
          go_meet
          case rel=>exact ⟨.ok r8,HPS10,HZ10,HXN,hiD (Nat.le_refl _)⟩
        case rest =>
        clear HPS10 HZ10 HXN
        obtain ⟨z12,HPS12,HZ12,HX12,HM12⟩:=hcut
        go_wp2_with fail
        go_at_call 42
        have hq13:Mods None wc (wc.alloc (.cells #[.string ⟨#[]⟩,.int .i64 0] 85)):=(Mods.refl _ _).alloc _
        have HPS13:=hiD (HPS12.out.quiet hq13)
        have HZ13:=hiD (HZ12.out.quiet hq13)
        have HB13:=hiD (Blk.new wc #[.string ⟨#[]⟩,.int .i64 0] 85)
        have HG:Hid (w3.heap.size<wc.heap.size∧¬ (Value.slice pa ps.length pc).ownBlock=some wc.heap.size):=hiD ⟨HPS12.out.fs.own.lt,fun h=>by have:=(HPS12.out.row.row.lt _ h).2;omega⟩
        obtain ⟨w13,hw13⟩:∃ q,q=wc.alloc (.cells #[.string ⟨#[]⟩,.int .i64 0] 85):=⟨_,rfl⟩
        obtain ⟨g,hg⟩:∃ q,q=wc.heap.size:=⟨_,rfl⟩
        rw [← hw13] at HPS13 HZ13 HB13 ⊢
        rw [← hg] at HB13 HG ⊢
        clear hw13 hg hq13 HPS12 HZ12
        have HBG:Hid (b<g):=hiD (by have:=HPS13.out.fs.lt;have:=HG.out.1;omega)
        refine (ok_b HZ13.out).mono ?_
        rintro e w14 ⟨rfl,hz14,hq14⟩
        have HPS14:=hiD (HPS13.out.quiet hq14)
        have HZ14:=hiD hz14
        have HB14:=hiD (HB13.out.mods hq14 (fun f=>f))
        obtain ⟨ob,hob⟩:∃ o,o=isOk z12:=⟨_,rfl⟩
        rw [← hob]
        have HOB:=hiD hob
        clear hz14 hq14 HPS13 HZ13 HB13 hob
        go_upto_if 70 with (fail)
        go_cut [] (fun w=>∃ (pn:List UInt8) (z:Except (Int×Int) (List Tok)),Hid (Ps w3 w b (Own (PB W.heap.size b) (.slice oa k oc)) [str nm,.int .i64 ta,.slice pa ps.length pc,.slice none 0 0] (.slice pa ps.length pc) ps.length (pcells ps))∧Hid (Rx w b z)∧Hid (Blk w g [.string ⟨pn.toArray⟩,.int .i64 0] 85)∧Hid (kont (kP ff ps (kC f2 l ta nm) pn) z=some x)∧Hid (zm z≤r8.length))
        case first =>
         cases ob
         ·cases z12 with
          | ok r5=>exact absurd HOB.out (by simp [isOk])
          | error e =>
          go_wp2_with fail
          go_meet
          case rel=>exact ⟨[],.error e,HPS14,HZ14,HB14,HX12,hiD (Nat.zero_le _)⟩
         ·cases z12 with
          | error e=>exact absurd HOB.out (by simp [isOk])
          | ok r5 =>
          go_wp2_with fail
          go_at_call 45
          refine (name_x HZ14.out HX12.out).mono ?_
          rintro e w15 ⟨pn,rfl,z15,hz15,hx15,hm15,hq15⟩
          have HPS15:=hiD (HPS14.out.next hq15)
          have HZ15:=hiD hz15
          have HX15:=hiD hx15
          have HB15:=hiD (HB14.out.mods hq15 (fun h=>by have:=HBG.out;have:g=b:=h;omega))
          have HM15:Hid (zm z15≤r8.length):=hiD (by have:=HM12.out;simp only [zm] at this;omega)
          have c0:=HB15.out.cell (i:=0) rfl
          have f0:=HB15.out.free 0
          have hl0:=HB15.out.lt
          clear hz15 hx15 hm15 hq15
          go_wp2_with fail
          go_meet
          case rel=>exact ⟨pn,z15,hiD (HPS15.out.far (mods_put w15 g 0 _) HG.out.1 HG.out.2),hiD (HZ15.out.put HBG.out 0 _),hiD (blk_put HB15.out 0 (.string ⟨pn.toArray⟩) rfl),HX15,HM15⟩
        case rest =>
        clear HPS14 HZ14 HB14 HOB HX12 HM12
        obtain ⟨pn,z16,HPS16,HZ16,HB16,HX16,HM16⟩:=hcut
        go_wp2_with fail
        go_at_call 44
        refine (must_x (s:=[58]) (k:=kS ff ps (kC f2 l ta nm) pn) HZ16.out HX16.out).mono ?_
        rintro e w17 ⟨rfl,z17,hz17,hx17,hm17,hq17⟩
        have HPS17:=hiD (HPS16.out.next hq17)
        have HZ17:=hiD hz17
        have HX17:=hiD hx17
        have HB17:=hiD (HB16.out.mods hq17 (fun h=>by have:=HBG.out;have:g=b:=h;omega))
        have HM17:Hid (zm z17≤r8.length):=hiD (by have:=HM16.out;omega)
        have c1:=HB17.out.cell (i:=1) rfl
        have f1:=HB17.out.free 1
        have hl1:=HB17.out.lt
        clear hz17 hx17 hm17 hq17 HPS16 HZ16 HB16 HX16 HM16
        go_wp2_with fail
        go_at_call 46
        clear c1 f1 hl1
        have HPS18:=hiD (HPS17.out.far (mods_put w17 g 1 (.int .i64 2)) HG.out.1 HG.out.2)
        have HZ18:=hiD (HZ17.out.put HBG.out 1 (.int .i64 2))
        have HB18:=hiD (blk_put (ds:=[.string ⟨pn.toArray⟩,.int .i64 2]) HB17.out 1 (.int .i64 2) rfl)
        obtain ⟨w18,hw18⟩:∃ q,q=w17.setCell ⟨g,1,none⟩ (.int .i64 2):=⟨_,rfl⟩
        rw [← hw18] at HPS18 HZ18 HB18 ⊢
        clear hw18 HPS17 HZ17 HB17
        refine (take_x (s:=kArr) (k:=kT ff ps (kC f2 l ta nm) pn 2) (j:=fun r=>andThen (must kInt r) fun _ r4=>kT ff ps (kC f2 l ta nm) pn 1 r4) HZ18.out HX17.out).mono ?_
        rintro e w19 ⟨tb,rfl,z19,hz19,hx19,hm19,hq19⟩
        have HPS19:=hiD (HPS18.out.next hq19)
        have HZ19:=hiD hz19
        have HX19:=hiD hx19
        have HB19:=hiD (HB18.out.mods hq19 (fun h=>by have:=HBG.out;have:g=b:=h;omega))
        have HM19:Hid (zm z19≤r8.length):=hiD (by have:=HM17.out;omega)
        clear hz19 hx19 hm19 hq19 HPS18 HZ18 HB18 HX17 HM17
        go_upto_if 79 with (fail)
        go_cut [] (fun w=>∃ (ty:Int) (z:Except (Int×Int) (List Tok)),Hid (Ps w3 w b (Own (PB W.heap.size b) (.slice oa k oc)) [str nm,.int .i64 ta,.slice pa ps.length pc,.slice none 0 0] (.slice pa ps.length pc) ps.length (pcells ps))∧Hid (Rx w b z)∧Hid (Blk w g [.string ⟨pn.toArray⟩,.int .i64 ty] 85)∧Hid (kont (kT ff ps (kC f2 l ta nm) pn ty) z=some x)∧Hid (zm z≤r8.length))
        case first =>
         cases tb
         ·have c1:=HB19.out.cell (i:=1) rfl
          have f1:=HB19.out.free 1
          have hl1:=HB19.out.lt
          go_wp2_with fail
          go_at_call 44
          refine (must_x (s:=kInt) (k:=kT ff ps (kC f2 l ta nm) pn 1) (HZ19.out.put HBG.out 1 (.int .i64 1)) HX19.out).mono ?_
          rintro e w20 ⟨rfl,z20,hz20,hx20,hm20,hq20⟩
          have HPS20:=hiD ((HPS19.out.far (mods_put w19 g 1 (.int .i64 1)) HG.out.1 HG.out.2).next hq20)
          have HZ20:=hiD hz20
          have HX20:=hiD hx20
          have HB20:=hiD ((blk_put (ds:=[.string ⟨pn.toArray⟩,.int .i64 1]) HB19.out 1 (.int .i64 1) rfl).mods hq20 (fun h=>by have:=HBG.out;have:g=b:=h;omega))
          have HM20:Hid (zm z20≤r8.length):=hiD (by have:=HM19.out;omega)
          clear hz20 hx20 hm20 hq20 c1 f1 hl1
          go_wp2_with fail
          go_meet
          case rel=>exact ⟨1,z20,HPS20,HZ20,HB20,HX20,HM20⟩
         ·go_wp2_with fail
          go_meet
          case rel=>exact ⟨2,z19,HPS19,HZ19,HB19,HX19,HM19⟩
        case rest =>
        clear HPS19 HZ19 HB19 HX19 HM19
        obtain ⟨ty,z21,HPS21,HZ21,HB21,HX21,HM21⟩:=hcut
        have p0:=HB21.out.cell (i:=0) rfl
        have p1:=HB21.out.cell (i:=1) rfl
        have c2:=HPS21.out.fs.own.cell (i:=2) rfl
        have HMA:=hiD ((Mods.refl None wc).alloc (.cells #[.string ⟨pn.toArray⟩,.int .i64 ty] 85))
        have HPA:=hiD (HPS21.out.quiet HMA.out)
        have HZA2:=hiD (HZ21.out.quiet HMA.out)
        clear HPS21 HZ21 HB21
        go_wp2_with (at_builtin;refine wpList_append_own_at _ rfl _ _ 30 rfl (w3.heap.size+1) 85 j0 _ 2 24 Tryz.underlying30 HJ.out.1 HJ.out.2.1 HJ.out.2.2.1 HJ.out.2.2.2 rfl (by decide) (.slice pa ps.length pc) ps.length (pcells ps) rfl HPA.out.row.row ⟨wc.heap.size,0,none⟩ 1 1 [.string ⟨pn.toArray⟩,.int .i64 ty] rfl rfl (two_new _ _ _ _) (two_one _ _) (by have:=HPN.out;unfold maxLen;omega) (by have:=HPN.out;omega) HPA.out.row.base ?_;intro v' w22 hown hgrow hnil hloc;have HGR:Hid (Grew (wc.alloc (.cells #[.string ⟨pn.toArray⟩,.int .i64 ty] 85)) w22 (.slice pa ps.length pc) v'):=hiD (grew_of hgrow hloc);have HOW:=hiD (HPA.out.row.grew HGR.out hown);clear hown hgrow hnil hloc;refine Hid.out ?_)
        refine hiD ?_
        clear p0 p1 c2
        obtain ⟨qa,qc,rfl⟩:=lex_form HOW.out.row
        have hlw:∀ i,(Value.slice pa ps.length pc).ownBlock=some i→w3.heap.size<i:=fun i hi=>by have:=(HPA.out.row.row.lt i hi).1;omega
        have HF22:=hiD (HPA.out.fs.far HGR.out.mods (fun i hi=>Or.inr (hlw i hi)))
        have HZ22:=hiD (HZA2.out.far HGR.out.mods (fun i hi=>by have:=hlw i hi;have:=HPA.out.fs.lt;omega))
        have c22:=HF22.out.own.cell (i:=2) rfl
        have f22:=HF22.out.own.free 2
        have hl22:=HF22.out.own.lt
        clear hlw
        go_wp2_with fail
        have HF23:=HF22.out.put (ds:=[str nm,.int .i64 ta,.slice qa (ps.length+1) qc,.slice none 0 0]) 2 (.slice qa (ps.length+1) qc) rfl
        have HZ23:=HZ22.out.put HF22.out.lt 2 (.slice qa (ps.length+1) qc)
        have HO23:=HOW.out.keep (mods_put w22 w3.heap.size 2 (.slice qa (ps.length+1) qc)) (by intro i hi he;have:=(HOW.out.row.lt i hi).1;omega)
        refine ⟨⟨false,.slice qa (ps.length+1) qc,ps.length+1,pcells (ps++[(pn,ty)]),z21,rfl,⟨HF23,?_,HPA.out.has⟩,HZ23,?_,?_⟩,?_⟩
        ·rw [pcells_append]
         exact HO23
        ·have h1:=HM21.out
         have h2:=HZM.out
         simp only [zm] at h2
         omega
        ·have hx:=HX21.out
         cases z21 with
         | error e=>exact (Option.some.inj hx).symm
         | ok r9 =>
          refine ⟨ff,ps++[(pn,ty)],by simp,rfl,?_,hx⟩
          have h1:=HM21.out
          have h2:=HPN.out
          simp only [zm,List.length_append,List.length_cons,List.length_nil] at *
          omega
        ·rw [HZ23.lenB,HZA.out.lenB]
         have h1:=HM21.out
         show zm z21<r8.length+1
         omega
set_option maxRecDepth 100000 in
set_option maxHeartbeats 1600000 in
theorem parse_bad (s:List UInt8) (f:Nat) (n a:Int) (W:World) (hL:Lies W) (hlen:s.length≤10000000) (hx:lexF f s 0 0=some (.error (n,a))) :
  Calls Tryz.prog 15 #[str s] W (Parsed W (.error (n,a))):=by
 have HM:=hiD ((Mods.refl None W).alloc (.cells #[.int .i64 0,.int .i64 0] 40))
 have HC:=hiD (fun (w:World) (hm:Mods None W w)=>tokens_any s W.heap.size f _ w (hL.fine.far hm (fun _ f=>f.elim)) (hL.most.far hm (fun _ f=>f.elim)) hlen hx)
 have HL:=hiD hL
 have HA0:=hiD (Blk.new W #[.int .i64 0,.int .i64 0] 40)
 clear hL hx
 unfold str at *
 go_enter Tryz.func15,Tryz.ntmps15
 go_wp2_with fail
 go_at_call 41
 refine (HC.out _ HM.out).mono ?_
 rintro e w1 ⟨rfl,h34,hm⟩
 have HA1:=hiD (HA0.out.mods hm (fun f=>f))
 have HM1:=hiD (HM.out.trans hm)
 obtain ⟨-,f0,f1⟩:=HL.out.fine.far HM1.out (fun _ f=>f.elim)
 have hflt:=World.block_lt_of_cell? w1 _ f1
 simp only at hflt
 have r0:=HA1.out.cell (i:=0) rfl
 have r1:=HA1.out.cell (i:=1) rfl
 have q0:=HA1.out.free 0
 have q1:=HA1.out.free 1
 have ql:=HA1.out.lt
 clear hm HM HC HA0
 rcases h34 with rfl|rfl
 ·have hne:=neq_3 a
  go_wp2_with fail
  go_region
  go_wp2
  have hbk:=(blk_put (ds:=[.int .i64 3,.int .i64 a]) (blk_put (ds:=[.int .i64 3,.int .i64 0]) HA1.out 0 (.int .i64 3) rfl) 1 (.int .i64 a) rfl).alloc (.cells #[.int .i64 3,.int .i64 a] 40)
  have s0:=hbk.cell (i:=0) rfl
  have s1:=hbk.cell (i:=1) rfl
  refine bodyPost_ret (v:=.tuple #[.slice none 0 0,.agg #[.int .i64 3,.int .i64 a]]) (by simp [results,Tryz.results15,go_sem,s0,s1]) rfl ?_
  have h34:(3:Int)=3∨(3:Int)=4:=by omega
  exact ⟨rfl,h34,HM1.out.trans' ((((mods_put w1 W.heap.size 0 _).trans (mods_put _ W.heap.size 1 _)).alloc _).drew) (by rintro k rfl hk;omega)⟩
 ·have hne:=neq_4 a
  go_wp2_with fail
  go_region
  go_wp2
  have hbk:=(blk_put (ds:=[.int .i64 4,.int .i64 a]) (blk_put (ds:=[.int .i64 4,.int .i64 0]) HA1.out 0 (.int .i64 4) rfl) 1 (.int .i64 a) rfl).alloc (.cells #[.int .i64 4,.int .i64 a] 40)
  have s0:=hbk.cell (i:=0) rfl
  have s1:=hbk.cell (i:=1) rfl
  refine bodyPost_ret (v:=.tuple #[.slice none 0 0,.agg #[.int .i64 4,.int .i64 a]]) (by simp [results,Tryz.results15,go_sem,s0,s1]) rfl ?_
  have h34:(4:Int)=3∨(4:Int)=4:=by omega
  exact ⟨rfl,h34,HM1.out.trans' ((((mods_put w1 W.heap.size 0 _).trans (mods_put _ W.heap.size 1 _)).alloc _).drew) (by rintro k rfl hk;omega)⟩
end Go.Proofs.YtdgedlhefjmcpaaGreatDoor.TreeP.R
