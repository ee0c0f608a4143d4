/- The parser of tree as it lies in memory: its tokens. No conditions. The kept words: the map of them. No conditions. A name is taken. No conditions. The marks of a level: which one comes next. Conditions: that the levels lie as the program lays them. Expressions as they lie in memory, apart from some blocks. No conditions. How a walk through the reader goes on behind a call of one of its parts. No conditions. Rows that grow while others are read. No conditions. Statements as they lie in memory; what the parts that read them say. No conditions. Functions as they lie in memory. Printed by mkfun.py. No conditions. -/
import Derived.Test.YtnicpmoanjddbaaGreatDoorRows
import Derived.Test.YtnicpmoanjddbaaGreatDoorMs01
import Derived.WalkKit
import Derived.ProofKit
import Derived.WalkSpells
import Derived.WalkLawsBesides
import Derived.Lib.Hide
import Derived.RegionTactic
import Derived.Deep.RegionHeld3
import Derived.Outline
import Derived.IntWalk
import Derived.Maps.OwnSet
import Derived.StringKeys
import Derived.Lib.SmallJoins
import Derived.Maps.AppendAt
import Derived.OwnWalk
namespace Go.Proofs.YtnicpmoanjddbaaGreatDoor.TreeP
open Go.RowKit Go.Proofs.YtnicpmoanjddbaaGreatDoor.Wo
set_option linter.unusedVariables false
set_option linter.unusedSimpArgs false
def str (l:List UInt8):Value:=.string ⟨l.toArray⟩
def ToksAt (W:World) (g o:Nat) (ts:List Tok):Prop :=
 ∀ (i:Nat) (t:Tok),ts[i]?=some t→W.cell? ⟨g,o+i*3,none⟩=some (.int .i64 t.kind)∧W.cell? ⟨g,o+i*3+1,none⟩=some (str t.text)∧W.cell? ⟨g,o+i*3+2,none⟩=some (.int .i64 t.at_)
theorem ToksAt.mods {S:Nat→Prop} {W W':World} {g o:Nat} {ts:List Tok} (h:ToksAt W g o ts) (hm:Mods S W W') (hn:¬ S g):ToksAt W' g o ts:=fun i t ht =>
 ⟨hm.cellOf (h i t ht).1 hn,hm.cellOf (h i t ht).2.1 hn,hm.cellOf (h i t ht).2.2 hn⟩
theorem ToksAt.tail {W:World} {g o:Nat} {t:Tok} {ts:List Tok} (h:ToksAt W g o (t::ts)):ToksAt W g (o+3) ts:=fun i u hu=>by
 have:=h (i+1) u (by simpa using hu)
 rw [show o+3+i*3=o+(i+1)*3 by omega]
 exact this
def Ends (ts:List Tok):Prop:=∃ a,ts.getLast?=some ⟨4,[],a⟩
theorem Ends.ne {ts:List Tok} (h:Ends ts):ts≠[]:=by rintro rfl;obtain ⟨a,h⟩:=h;simp at h
theorem Ends.tail {t:Tok} {ts:List Tok} (h:Ends (t::ts)) (hk:t.kind≠4):Ends ts:=by
 obtain ⟨a,h⟩:=h
 cases ts with
 | nil=>simp at h;rw [h] at hk;exact absurd rfl hk
 | cons u us=>exact ⟨a,by simpa using h⟩
structure PAt (W:World) (b g o c:Nat) (ts:List Tok):Prop where
 blk:Blk W b [.slice (some ⟨g,o,none⟩) ts.length c] 77
 cap:ts.length≤c
 max:c≤9223372036854775807
 len:ts.length≤10000000
 lt:g<b
 toks:ToksAt W g o ts
 ends:Ends ts
 small:∀ t∈ts,t.text.length≤10000000
 nums:∀ t∈ts,t.kind=2→t.text≠[]∧t.text.all digitB=true
def Par (W:World) (b:Nat) (ts:List Tok):Prop:=∃ g o c,PAt W b g o c ts
theorem PAt.mods {S:Nat→Prop} {W W':World} {b g o c:Nat} {ts:List Tok} (h:PAt W b g o c ts) (hm:Mods S W W') (hb:¬ S b) (hg:¬ S g):PAt W' b g o c ts :=
 ⟨h.blk.mods hm hb,h.cap,h.max,h.len,h.lt,h.toks.mods hm hg,h.ends,h.small,h.nums⟩
theorem Par.mods {W W':World} {b:Nat} {ts:List Tok} (h:Par W b ts) (hm:Mods None W W'):Par W' b ts:=by
 obtain ⟨g,o,c,h⟩:=h
 exact ⟨g,o,c,h.mods hm (fun f=>f) (fun f=>f)⟩
theorem Par.far {W W':World} {b:Nat} {ts:List Tok} {T:Nat→Prop} (h:Par W b ts) (hm:Mods T W W') (hT:∀ k,T k→b<k):Par W' b ts:=by
 obtain ⟨g,o,c,h⟩:=h
 exact ⟨g,o,c,h.mods hm (fun f=>Nat.lt_irrefl _ (hT _ f)) (fun f=>Nat.lt_asymm h.lt (hT _ f))⟩
theorem Par.ends {W:World} {b:Nat} {ts:List Tok} (h:Par W b ts):Ends ts:=by
 obtain ⟨g,o,c,h⟩:=h;exact h.ends
theorem PAt.tail {W:World} {b g o c:Nat} {t:Tok} {ts:List Tok} (h:PAt W b g o c (t::ts)) (hk:t.kind≠4):PAt (W.setCell ⟨b,0,none⟩ (.slice (some ⟨g,o+3,none⟩) ts.length (c-1))) b g (o+3) (c-1) ts:=by
 have hm:Mods (·=b) W (W.setCell ⟨b,0,none⟩ (.slice (some ⟨g,o+3,none⟩) ts.length (c-1))):=Mods.setCell (S:=(·=b)) (p:=⟨b,0,none⟩) (Mods.refl _ _) (fun _=>rfl) _
 have hc:=h.cap
 simp only [List.length_cons] at hc
 exact ⟨h.blk.set 0 _,by omega,by have:=h.max;omega,by have:=h.len;simp only [List.length_cons] at this;omega,h.lt,h.toks.tail.mods hm (Nat.ne_of_lt h.lt),h.ends.tail hk,fun u hu=>h.small u (List.mem_cons_of_mem _ hu),fun u hu=>h.nums u (List.mem_cons_of_mem _ hu)⟩
section
variable {W:World} {b g o c:Nat} {t:Tok} {ts:List Tok}
theorem PAt.cl (h:PAt W b g o c (t::ts)):W.cell? ⟨b,0,none⟩=some (.slice (some ⟨g,o,none⟩) (ts.length+1) c):=h.blk.cell rfl
theorem PAt.ck (h:PAt W b g o c (t::ts)):W.cell? ⟨g,o,none⟩=some (.int .i64 t.kind):=(h.toks 0 t rfl).1
theorem PAt.ct (h:PAt W b g o c (t::ts)):W.cell? ⟨g,o+1,none⟩=some (.string ⟨t.text.toArray⟩):=(h.toks 0 t rfl).2.1
theorem PAt.ca (h:PAt W b g o c (t::ts)):W.cell? ⟨g,o+2,none⟩=some (.int .i64 t.at_):=(h.toks 0 t rfl).2.2
end
theorem ends_cons {ts:List Tok} (h:Ends ts):∃ t r,ts=t::r:=by
 cases ts with
 | nil=>exact absurd rfl h.ne
 | cons t r=>exact ⟨t,r,rfl⟩
set_option maxRecDepth 100000 in
set_option maxHeartbeats 400000 in
theorem see_any (b:Nat) (s:List UInt8) (ts:List Tok) (W:World) (h:Par W b ts) :
 Calls Tryz.prog 93 #[.pointer (some ⟨b,0,none⟩),str s] W fun e W'=>e=.returned (.bool (seeB s ts))∧W=W':=by
 obtain ⟨g,o,c,h⟩:=h
 obtain ⟨t,r,rfl⟩:=ends_cons h.ends
 have hl:=h.cl
 have hk:=h.ck
 have ht:=h.ct
 have hcap:=h.cap
 have hmax:=h.max
 simp only [List.length_cons] at hcap
 obtain ⟨tk,tt,ta⟩:=t
 simp only at hk ht
 unfold str
 have HS:seeB s (⟨tk,tt,ta⟩::r)=(tt==s && tk != 4):=rfl
 rw [HS]
 clear h HS
 cases hq:(tt==s)
 all_goals
  go_enter Tryz.func93,Tryz.ntmps93
  go_wp2
  go_ret
  exact ⟨rfl,rfl⟩
theorem see_cons {s:List UInt8} {ts:List Tok} (h:seeB s ts=true) (he:Ends ts):∃ t r,ts=t::r∧t.kind≠4:=by
 obtain ⟨t,r,rfl⟩:=ends_cons he
 refine ⟨t,r,rfl,?_⟩
 simp only [seeB,headKind,List.head?_cons,Option.map_some,Option.getD_some,Bool.and_eq_true,bne_iff_ne,ne_eq] at h
 exact h.2
theorem take_no (b:Nat) (s:List UInt8) (ts:List Tok) (W:World) (h:Par W b ts) (hs:seeB s ts=false) :
 Calls Tryz.prog 62 #[.pointer (some ⟨b,0,none⟩),str s] W fun e W'=>e=.returned (.bool false)∧W=W':=by
 have HS:=see_any b s ts W h
 rw [hs] at HS
 unfold str at HS ⊢
 have H:=hiD HS
 clear h hs HS
 go_enter Tryz.func62,Tryz.ntmps62
 go_wp2_with (go_at_call 93;refine H.out.mono ?_;rintro e w' ⟨rfl,rfl⟩)
 go_ret
 exact ⟨rfl,rfl⟩
def Passed (W:World) (b:Nat) (ts:List Tok) (W':World):Prop:=Par W' b ts.tail∧Mods (·=b) W W'
set_option maxRecDepth 100000 in
theorem take_yes (b:Nat) (s:List UInt8) (ts:List Tok) (W:World) (h:Par W b ts) (hs:seeB s ts=true) :
 Calls Tryz.prog 62 #[.pointer (some ⟨b,0,none⟩),str s] W fun e W'=>e=.returned (.bool true)∧Passed W b ts W':=by
 have HS:=see_any b s ts W h
 rw [hs] at HS
 unfold str at HS ⊢
 have H:=hiD HS
 obtain ⟨t,r,rfl,hk⟩:=see_cons hs h.ends
 obtain ⟨g,o,c,h⟩:=h
 have hl:=h.cl
 have hcap:=h.cap
 have hmax:=h.max
 simp only [List.length_cons] at hcap
 have hf:=h.blk.free 0
 have hr:1≤r.length:=by
  have:=(h.ends.tail hk).ne
  cases r with
  | nil=>exact absurd rfl this
  | cons _ _=>simp
 have HT:=hiD (h.tail hk)
 clear h hs HS hk
 go_enter Tryz.func62,Tryz.ntmps62
 go_wp2_with (go_at_call 93;refine H.out.mono ?_;rintro e w' ⟨rfl,rfl⟩)
 go_ret
 exact ⟨rfl,⟨_,_,_,HT.out⟩,Mods.setCell (S:=(·=b)) (p:=⟨b,0,none⟩) (Mods.refl _ _) (fun _=>rfl) _⟩
def wrongV (g:Nat):Value:=.iface 70 (.agg #[.iface 134 (.pointer (some ⟨g,0,none⟩))])
def Threw (S:Nat→Prop) (W:World) (n a:Int) (e:Ending) (W':World):Prop :=
 ∃ g,e=.panicked [{ v:=wrongV g,recovered:=false }]∧Blk W' g [.int .i64 n,.int .i64 a] 136∧Mods S W W'
set_option maxRecDepth 100000 in
theorem fail_any (b:Nat) (n:Int) (ts:List Tok) (W:World) (h:Par W b ts) :
 Calls Tryz.prog 30 #[.pointer (some ⟨b,0,none⟩),.int .i64 n] W (Threw None W n (headAt ts)):=by
 obtain ⟨g,o,c,h⟩:=h
 obtain ⟨t,r,rfl⟩:=ends_cons h.ends
 have hl:=h.cl
 have ha:=h.ca
 have hcap:=h.cap
 have hmax:=h.max
 simp only [List.length_cons] at hcap
 clear h
 go_enter Tryz.func30,Tryz.ntmps30
 go_wp2
 exact ⟨rfl,_,rfl,Blk.new W _ _,(Mods.refl _ _).alloc _⟩
theorem Threw.mono {S T:Nat→Prop} {W:World} {n a:Int} {e:Ending} {W':World} (h:Threw S W n a e W') (hs:∀ k,S k→T k):Threw T W n a e W':=by
 obtain ⟨g,h1,h2,h3⟩:=h
 exact ⟨g,h1,h2,h3.mono fun k _ hk=>hs k hk⟩
theorem Threw.after {S:Nat→Prop} {W W1:World} {n a:Int} {e:Ending} {W':World} (hm:Mods S W W1) (h:Threw S W1 n a e W'):Threw S W n a e W':=by
 obtain ⟨g,h1,h2,h3⟩:=h
 exact ⟨g,h1,h2,hm.trans h3⟩
theorem must_yes (b:Nat) (s:List UInt8) (ts:List Tok) (W:World) (h:Par W b ts) (hs:seeB s ts=true) :
 Calls Tryz.prog 60 #[.pointer (some ⟨b,0,none⟩),str s] W fun e W'=>e=.returned (.tuple #[])∧Passed W b ts W':=by
 have H:=hiD (take_yes b s ts W h hs)
 unfold str at H ⊢
 clear h hs
 go_enter Tryz.func60,Tryz.ntmps60
 go_wp2_with (go_at_call 62;refine H.out.mono ?_;rintro e w' ⟨rfl,hp⟩)
 go_end0
 exact ⟨rfl,hp⟩
theorem must_no (b:Nat) (s:List UInt8) (ts:List Tok) (W:World) (h:Par W b ts) (hs:seeB s ts=false) :
 Calls Tryz.prog 60 #[.pointer (some ⟨b,0,none⟩),str s] W (Threw None W 3 (headAt ts)):=by
 have H:=hiD (take_no b s ts W h hs)
 have HF:=hiD (fail_any b 3 ts W h)
 unfold str at H ⊢
 clear h hs
 go_enter Tryz.func60,Tryz.ntmps60
 go_wp2_with (first|(go_at_call 62;refine H.out.mono ?_;rintro e w' ⟨rfl,rfl⟩)|(go_at_call 30;refine HF.out.mono ?_;rintro e w' ⟨g,rfl,hb,hm⟩))
 exact ⟨rfl,g,rfl,hb,hm⟩
end Go.Proofs.YtnicpmoanjddbaaGreatDoor.TreeP
namespace Go.Proofs.YtnicpmoanjddbaaGreatDoor.TreeP
open Go.RowKit Go.Proofs.YtnicpmoanjddbaaGreatDoor.Wo Go.Maps
set_option linter.unusedVariables false
set_option linter.unusedSimpArgs false
theorem strKeys:Keyed Tryz.prog 9:=string_keyed Tryz.underlying9
theorem zeroInt (w:World):(zeroValue 3).run Tryz.prog w=.ok (.int .i64 0) w:=by kernel_rfl
theorem keyStr {s:List UInt8} (hs:s.length≤10000000):keyOf Tryz.prog 9 (str s)=some (.string s):=by
 have:=WideMaps.keyOf_string_mk (P:=Tryz.prog) Tryz.underlying9 (s:=⟨s.toArray⟩) (by
  show s.toArray.size≤maxLen
  rw [List.size_toArray]
  exact Nat.le_trans hs (by decide))
 exact this
def SetIs (W:World) (bm n:Nat) (l:List (List UInt8)):Prop :=
 ∃ D:DataW Unit,W.ownsMap Tryz.prog 9 (plainElem Tryz.prog 3) bm n D∧IsMap D∧∀ s:List UInt8,has D (.string s)=l.contains s
theorem SetIs.new (W:World):SetIs (W.alloc (.map #[] 0)) W.heap.size 0 [] :=
 ⟨_,World.ownsMap_made _ _ _ _,⟨_,rfl⟩,fun s=>rfl⟩
theorem SetIs.put {W:World} {bm n:Nat} {l:List (List UInt8)} (h:SetIs W bm n l) (a:List UInt8) (ha:a.length≤10000000) (hn:n<maxLen) :
 ∃ w',(Instr.mapUpdate 87 (.map (some bm)) (str a) (.int .i64 1)).run Tryz.prog W=.ok () w'∧SetIs w' bm (n+1) (a::l)∧Mods (·=bm) W w':=by
 obtain ⟨D,h1,h0,h2⟩:=h
 obtain ⟨w',hr,ho,hg⟩:=h1.update strKeys Tryz.underlying87 hn (keyStr ha) (plainElem_int (H:=Unit) (a:=1) Tryz.underlying3 (by decide))
 refine ⟨w',hr,⟨_,ho,(ho.tidy strKeys).isMap,fun s=>?_⟩,Mods.of_grownBy hg (fun k hk _=>by cases hk;rfl)⟩
 by_cases hx:s=a
 · subst hx
   rw [has_put_same h0 (by trivial)]
   simp
 · rw [has_put_other (by simpa using hx),h2 s]
   simp [hx]
theorem SetIs.look {W:World} {bm n:Nat} {l:List (List UInt8)} (h:SetIs W bm n l) (s:List UInt8) (hs:s.length≤10000000) :
 ∃ v,(Instr.lookup 87 (.map (some bm)) (str s) true).run Tryz.prog W=.ok (.tuple #[v,.bool (l.contains s)]) W:=by
 obtain ⟨D,h1,h0,h2⟩:=h
 obtain ⟨v,ps,hr,hv⟩:=h1.look_ok strKeys Tryz.underlying87 (zeroInt _) (plainElem_int (H:=Unit) Tryz.underlying3 (a:=0) (by decide)) (keyStr hs)
 exact ⟨v,by rw [← h2 s];exact hr⟩
set_option maxRecDepth 100000 in
theorem kept_any (s:List UInt8) (W:World) (hs:s.length≤10000000) :
 Calls Tryz.prog 92 #[str s] W fun e W'=>e=.returned (.bool (keptB s))∧Mods None W W':=by
 have hmm:=@run_makeMap Tryz.prog
 have H0:=SetIs.new W
 obtain ⟨w0,hr0,H1,hm0⟩:=H0.put [102,110] (by decide) (by decide)
 obtain ⟨w1,hr1,H2,hm1⟩:=H1.put [118,97,114] (by decide) (by decide)
 obtain ⟨w2,hr2,H3,hm2⟩:=H2.put [105,102] (by decide) (by decide)
 obtain ⟨w3,hr3,H4,hm3⟩:=H3.put [101,108,115,101] (by decide) (by decide)
 obtain ⟨w4,hr4,H5,hm4⟩:=H4.put [119,104,105,108,101] (by decide) (by decide)
 obtain ⟨w5,hr5,H6,hm5⟩:=H5.put [114,101,116,117,114,110] (by decide) (by decide)
 obtain ⟨w6,hr6,H7,hm6⟩:=H6.put [112,114,105,110,116] (by decide) (by decide)
 obtain ⟨w7,hr7,H8,hm7⟩:=H7.put [110,101,119] (by decide) (by decide)
 obtain ⟨w8,hr8,H9,hm8⟩:=H8.put [108,101,110] (by decide) (by decide)
 obtain ⟨w9,hr9,H10,hm9⟩:=H9.put [105,110,112,117,116] (by decide) (by decide)
 obtain ⟨w10,hr10,H11,hm10⟩:=H10.put [105,110,116] (by decide) (by decide)
 obtain ⟨w11,hr11,H12,hm11⟩:=H11.put [97,114,114] (by decide) (by decide)
 obtain ⟨v,hl⟩:=H12.look s hs
 have hk:keptB s=List.contains [[97,114,114],[105,110,116],[105,110,112,117,116],[108,101,110],[110,101,119],[112,114,105,110,116],[114,101,116,117,114,110],[119,104,105,108,101],[101,108,115,101],[105,102],[118,97,114],[102,110]] s:=by
  exact (List.contains_reverse (l:=keptList) (x:=s)).symm
 have hM:Mods None W w11:=by
  have h0:Mods (·=W.heap.size) (W.alloc (.map #[] 0)) w11:=(((((((((((hm0).trans hm1).trans hm2).trans hm3).trans hm4).trans hm5).trans hm6).trans hm7).trans hm8).trans hm9).trans hm10).trans hm11
  exact ((Mods.refl None W).alloc _).trans' h0 (fun i e hi=>absurd hi (by rw [e];exact Nat.lt_irrefl _))
 rw [← hk] at hl
 unfold str at *
 clear H0
 clear H1
 clear H2
 clear H3
 clear H4
 clear H5
 clear H6
 clear H7
 clear H8
 clear H9
 clear H10
 clear H11
 clear H12 hk
 go_enter Tryz.func92,Tryz.ntmps92
 go_wp2
 go_ret
 exact ⟨rfl,hM⟩
end Go.Proofs.YtnicpmoanjddbaaGreatDoor.TreeP
namespace Go.Proofs.YtnicpmoanjddbaaGreatDoor.TreeP
open Go.RowKit Go.Proofs.YtnicpmoanjddbaaGreatDoor.Wo
set_option linter.unusedVariables false
set_option linter.unusedSimpArgs false
def Got {α:Type} (S:Nat→Prop) (W:World) (b:Nat) (V:α→Value→World→Prop):PR α→Ending→World→Prop
 | none=>fun _ _=>True
 | some (.error (n,a))=>Threw S W n a
 | some (.ok (v,ts))=>fun e W'=>∃ x,e=.returned x∧V v x W'∧Par W' b ts∧Mods S W W'
theorem PAt.more {W:World} {b g o c:Nat} {t:Tok} {r:List Tok} (h:PAt W b g o c (t::r)) (hk:t.kind≠4):1≤r.length:=by
 have:=(h.ends.tail hk).ne
 cases r with
 | nil=>exact absurd rfl this
 | cons _ _=>simp
set_option maxRecDepth 100000 in
theorem name_any (b:Nat) (ts:List Tok) (W:World) (h:Par W b ts) :
 Calls Tryz.prog 61 #[.pointer (some ⟨b,0,none⟩)] W (Got (·=b) W b (fun s x _=>x=str s) (nameP ts)):=by
 have HF:=fun (n:Int) (W1:World) (h1:Par W1 b ts)=>fail_any b n ts W1 h1
 obtain ⟨g,o,c,h⟩:=h
 obtain ⟨t,r,rfl⟩:=ends_cons h.ends
 have hl:=h.cl
 have hk:=h.ck
 have ht:=h.ct
 have ha:=h.ca
 have hcap:=h.cap
 have hmax:=h.max
 have hs:=h.small t List.mem_cons_self
 simp only [List.length_cons] at hcap
 have HK:=fun (W1:World)=>kept_any t.text W1 hs
 have HP:=hiD h
 obtain ⟨tk,tt,ta⟩:=t
 simp only at hk ht hs HK
 unfold str at *
 have HN:nameP (⟨tk,tt,ta⟩::r)=if tk != 1 || keptB tt then failP 3 (⟨tk,tt,ta⟩::r) else if 12<tt.length then failP 4 (⟨tk,tt,ta⟩::r) else okP tt r:=rfl
 rw [HN]
 clear h HN
 have step:∀ (e:Ending) (W2:World) (n:Int) (W1:World),Mods None W W1→Threw None W1 n (headAt (⟨tk,tt,ta⟩::r)) e W2→Threw (·=b) W n (headAt (⟨tk,tt,ta⟩::r)) e W2:=fun e W2 n W1 hm ht=>(ht.after hm).mono fun k hk=>hk.elim
 have HPM:=fun (W1:World) (hm:Mods None W W1)=>(⟨g,o,c,HP.out.mods hm (fun f=>f) (fun f=>f)⟩:Par W1 b (⟨tk,tt,ta⟩::r))
 by_cases h1:tk=1
 · subst h1
   cases h2:keptB tt
   · by_cases h3:12<tt.length
     · rw [if_neg (by simp),if_pos h3]
       go_enter Tryz.func61,Tryz.ntmps61
       go_wp2_with (first|(go_at_call 92;refine (HK _).mono ?_;rintro e w' ⟨rfl,hm⟩;have B:=(Blk.new W #[.int .i64 1,.string ⟨tt.toArray⟩,.int .i64 ta] 79).mods hm (fun f=>f);have hM:=((Mods.refl None W).alloc _).trans hm;have c1:=B.cell (i:=1) rfl;have hl2:=hM.cellOf hl (fun f=>f);have hf2:=(HP.out.blk.mods hM (fun f=>f)).free 0)|(go_at_call 30;refine (HF _ _ (HPM _ (by first|assumption|exact (Mods.refl None W).alloc _))).mono ?_;rintro e w2 ⟨g2,rfl,hb,hm2⟩))
       exact ⟨rfl,step _ _ _ _ hM ⟨g2,rfl,hb,hm2⟩⟩
     · rw [if_neg (by simp),if_neg h3]
       have hr:1≤r.length:=HP.out.more (by simp)
       go_enter Tryz.func61,Tryz.ntmps61
       go_wp2_with (first|(go_at_call 92;refine (HK _).mono ?_;rintro e w' ⟨rfl,hm⟩;have B:=(Blk.new W #[.int .i64 1,.string ⟨tt.toArray⟩,.int .i64 ta] 79).mods hm (fun f=>f);have hM:=((Mods.refl None W).alloc _).trans hm;have c1:=B.cell (i:=1) rfl;have hl2:=hM.cellOf hl (fun f=>f);have hf2:=(HP.out.blk.mods hM (fun f=>f)).free 0)|(go_at_call 30;refine (HF _ _ (HPM _ (by first|assumption|exact (Mods.refl None W).alloc _))).mono ?_;rintro e w2 ⟨g2,rfl,hb,hm2⟩))
       go_ret
       exact ⟨_,rfl,rfl,⟨_,_,_,(HP.out.mods hM (fun f=>f) (fun f=>f)).tail (by simp)⟩,Mods.setCell (S:=(·=b)) (p:=⟨b,0,none⟩) (hM.mono fun _ _ f=>f.elim) (fun _=>rfl) _⟩
   · rw [if_pos (by simp)]
     go_enter Tryz.func61,Tryz.ntmps61
     go_wp2_with (first|(go_at_call 92;refine (HK _).mono ?_;rintro e w' ⟨rfl,hm⟩;have B:=(Blk.new W #[.int .i64 1,.string ⟨tt.toArray⟩,.int .i64 ta] 79).mods hm (fun f=>f);have hM:=((Mods.refl None W).alloc _).trans hm;have c1:=B.cell (i:=1) rfl;have hl2:=hM.cellOf hl (fun f=>f);have hf2:=(HP.out.blk.mods hM (fun f=>f)).free 0)|(go_at_call 30;refine (HF _ _ (HPM _ (by first|assumption|exact (Mods.refl None W).alloc _))).mono ?_;rintro e w2 ⟨g2,rfl,hb,hm2⟩))
     exact ⟨rfl,step _ _ _ _ hM ⟨g2,rfl,hb,hm2⟩⟩
 · rw [if_pos (by simp [h1])]
   go_enter Tryz.func61,Tryz.ntmps61
   go_wp2_with (first|(go_at_call 92;refine (HK _).mono ?_;rintro e w' ⟨rfl,hm⟩;have B:=(Blk.new W #[.int .i64 1,.string ⟨tt.toArray⟩,.int .i64 ta] 79).mods hm (fun f=>f);have hM:=((Mods.refl None W).alloc _).trans hm;have c1:=B.cell (i:=1) rfl;have hl2:=hM.cellOf hl (fun f=>f);have hf2:=(HP.out.blk.mods hM (fun f=>f)).free 0)|(go_at_call 30;refine (HF _ _ (HPM _ (by first|assumption|exact (Mods.refl None W).alloc _))).mono ?_;rintro e w2 ⟨g2,rfl,hb,hm2⟩))
   exact ⟨rfl,step _ _ _ _ ((Mods.refl None W).alloc _) ⟨g2,rfl,hb,hm2⟩⟩
def Levels (W:World) (b:Nat):Prop :=
 4<b∧∀ (i:Nat) (l:List (List UInt8)),levelList[i]?=some l→∃ p o c,W.cell? ⟨4,i,none⟩=some (.slice (some ⟨p,o,none⟩) l.length c)∧l.length≤c∧c≤100000∧p<b∧∀ (j:Nat) (m:List UInt8),l[j]?=some m→W.cell? ⟨p,o+j,none⟩=some (str m)
theorem Levels.far {W W':World} {b:Nat} {T:Nat→Prop} (h:Levels W b) (hm:Mods T W W') (hT:∀ k,T k→b≤k):Levels W' b:=by
 refine ⟨h.1,fun i l hl=>?_⟩
 obtain ⟨p,o,c,h1,h2,h3,h4,h5⟩:=h.2 i l hl
 exact ⟨p,o,c,hm.cellOf h1 (fun f=>Nat.lt_irrefl _ (Nat.lt_of_lt_of_le h.1 (hT _ f))),h2,h3,h4,fun j m hj=>hm.cellOf (h5 j m hj) (fun f=>Nat.lt_irrefl _ (Nat.lt_of_lt_of_le h4 (hT _ f)))⟩
theorem Levels.mods {W W':World} {b:Nat} (h:Levels W b) (hm:Mods (·=b) W W'):Levels W' b:=h.far hm (fun k hk=>Nat.le_of_eq hk.symm)
def RangeAt (W:World) (b:Nat):Prop:=6<b∧∃ t p,W.cell? ⟨6,0,none⟩=some (.iface t p)
theorem RangeAt.far {W W':World} {b:Nat} {T:Nat→Prop} (h:RangeAt W b) (hm:Mods T W W') (hT:∀ k,T k→b≤k):RangeAt W' b:=by
 obtain ⟨h1,t,p,h2⟩:=h
 exact ⟨h1,t,p,hm.cellOf h2 (fun f=>Nat.lt_irrefl _ (Nat.lt_of_lt_of_le h1 (hT _ f)))⟩
set_option maxRecDepth 100000 in
theorem op_any (b level:Nat) (ts:List Tok) (W:World) (h:Par W b ts) (hL:Levels W b) (hl:level<6) :
 Calls Tryz.prog 127 #[.pointer (some ⟨b,0,none⟩),.int .i64 level] W fun e W'=>e=.returned (str (opP level ts))∧W=W':=by
 have HS:=fun (m:List UInt8)=>see_any b m ts W h
 obtain ⟨l,hl1⟩:∃ l,levelList[level]?=some l:=⟨levelList[level],List.getElem?_eq_getElem (by exact hl)⟩
 have hop:opP level ts=(l.find? (fun m=>seeB m ts)).getD []:=by
  unfold opP
  rw [List.getD_eq_getElem?_getD,hl1];rfl
 rw [hop]
 obtain ⟨p,o,c,h1,h2,h3,_,h5⟩:=hL.2 level l hl1
 have HC:=hiD h5
 clear h hL hop hl1 h5
 unfold str at *
 go_enter Tryz.func127,Tryz.ntmps127
 go_wp2
 go_loopw [11] (fun v wr=>∃ i:Nat,i≤l.length∧v=.int .i64 i∧Hid ((l.drop i).find? (fun m=>seeB m ts)=l.find? (fun m=>seeB m ts))∧Hid (W=wr)) (fun v _=>(l.length-intOf v).toNat)
 case atStart=>exact ⟨0,Nat.zero_le _,rfl,hiD (by first|trivial|rfl),hiD (by first|trivial|rfl)⟩
 case round =>
  obtain ⟨i,hi,rfl,heq,hq⟩:=hrel
  obtain rfl:=hq.out
  by_cases hlt:i<l.length
  · obtain ⟨m,hm⟩:∃ m,m=l[i]:=⟨_,rfl⟩
    have hd:l.drop i=m::l.drop (i+1):=by rw [hm];exact List.drop_eq_getElem_cons hlt
    have hc:=HC.out i m (by rw [hm];exact List.getElem?_eq_getElem hlt)
    have H:=HS m
    cases hs:seeB m ts
    · have hnext:Hid ((l.drop (i+1)).find? (fun m=>seeB m ts)=l.find? (fun m=>seeB m ts)):=hiD (by
       rw [← heq.out,hd,List.find?_cons,hs])
      rw [hs] at H
      have H':=hiD H
      clear hm hd hs H
      go_wp2_with (go_at_call 93;refine H'.out.mono ?_;rintro e w' ⟨rfl,rfl⟩)
      go_roundw
      case rel=>exact ⟨i+1,by omega,by go_num,hnext,hiD (by first|trivial|rfl)⟩
      case measure=>simp [intOf];omega
    · have hfin:Hid ((l.find? (fun m=>seeB m ts)).getD []=m):=hiD (by
       rw [← heq.out,hd,List.find?_cons,hs];rfl)
      rw [hs] at H
      have H':=hiD H
      clear hm hd hs H
      go_wp2_with (go_at_call 93;refine H'.out.mono ?_;rintro e w' ⟨rfl,rfl⟩)
      go_ret
      rw [hfin.out]
      exact ⟨rfl,rfl⟩
  · obtain rfl:i=l.length:=by omega
    have hfin:Hid ((l.find? (fun m=>seeB m ts)).getD []=[]):=hiD (by
        rw [← heq.out,List.drop_length];rfl)
    go_wp2
    go_ret
    rw [hfin.out]
    exact ⟨rfl,rfl⟩
def RowAt (W:World) (S:Nat→Prop) (e:TypeId) (size:Nat) (x:Value) (n:Nat) (vs:List Value):Prop :=
 W.ownsRow 0 e size x n vs∧∀ k,x.ownBlock=some k→¬ S k
theorem RowAt.mods {W W':World} {S T:Nat→Prop} {e:TypeId} {size n:Nat} {x:Value} {vs:List Value} (h:RowAt W S e size x n vs) (hm:Mods S W W') (hT:∀ k,k<W.heap.size→T k→S k):RowAt W' T e size x n vs :=
 ⟨hm.ownsRow h.1 h.2,fun k hk ht=>h.2 k hk (hT k (h.1.lt k hk).2 ht)⟩
def cells8 (code a n:Int) (name op:List UInt8) (l r args:Value):List Value:=[.int .i64 code,.int .i64 a,.int .i64 n,str name,str op,l,r,args]
def nilP:Value:=.pointer none
def nilS:Value:=.slice none 0 0
def Node (W:World) (S:Nat→Prop) (v:Value) (cs:List Value):Prop:=∃ g,v=.pointer (some ⟨g,0,none⟩)∧¬ S g∧Blk W g cs 223
theorem Node.mods {W W':World} {S T:Nat→Prop} {x:Value} {cs:List Value} (h:Node W S x cs) (hm:Mods S W W') (hT:∀ k,k<W.heap.size→T k→S k):Node W' T x cs:=by
 obtain ⟨g,h1,h2,h3⟩:=h
 exact ⟨g,h1,fun ht=>h2 (hT g h3.lt ht),h3.mods hm h2⟩
mutual
def ExAt (W:World) (S:Nat→Prop):Ex→Value→Prop
 | .num a n,v=>Node W S v (cells8 1 a n [] [] nilP nilP nilS)
 | .var a s,v=>Node W S v (cells8 2 a 0 s [] nilP nilP nilS)
 | .bin a op l r,v=>∃ x y,Node W S v (cells8 3 a 0 [] op x y nilS)∧ExAt W S l x∧ExAt W S r y
 | .un a op l,v=>∃ x,Node W S v (cells8 4 a 0 [] op x nilP nilS)∧ExAt W S l x
 | .call a f l,v=>∃ x vs,Node W S v (cells8 5 a 0 f [] nilP nilP x)∧RowAt W S 141 1 x l.length vs∧ExsAt W S l vs
 | .new a l,v=>∃ x,Node W S v (cells8 6 a 0 [] [] x nilP nilS)∧ExAt W S l x
 | .len a l,v=>∃ x,Node W S v (cells8 7 a 0 [] [] x nilP nilS)∧ExAt W S l x
 | .item a l r,v=>∃ x y,Node W S v (cells8 8 a 0 [] [] x y nilS)∧ExAt W S l x∧ExAt W S r y
 | .input a,v=>Node W S v (cells8 9 a 0 [] [] nilP nilP nilS)
def ExsAt (W:World) (S:Nat→Prop):List Ex→List Value→Prop
 | [],vs=>vs=[]
 | e::l,vs=>∃ x r,vs=x::r∧ExAt W S e x∧ExsAt W S l r
end
mutual
theorem ExAt.modsTo {W W':World} {S T:Nat→Prop} (hm:Mods S W W') (hT:∀ k,k<W.heap.size→T k→S k):(e:Ex)→(v:Value)→ExAt W S e v→ExAt W' T e v
 | .num a n,v,h=>Node.mods (by simpa only [ExAt] using h) hm hT |> (by simp only [ExAt];exact ·)
 | .var a s,v,h=>Node.mods (by simpa only [ExAt] using h) hm hT |> (by simp only [ExAt];exact ·)
 | .bin a op l r,v,h=>by
   simp only [ExAt] at h ⊢
   obtain ⟨x,y,h1,h2,h3⟩:=h
   exact ⟨x,y,h1.mods hm hT,ExAt.modsTo hm hT l x h2,ExAt.modsTo hm hT r y h3⟩
 | .un a op l,v,h=>by
   simp only [ExAt] at h ⊢
   obtain ⟨x,h1,h2⟩:=h
   exact ⟨x,h1.mods hm hT,ExAt.modsTo hm hT l x h2⟩
 | .call a f l,v,h=>by
   simp only [ExAt] at h ⊢
   obtain ⟨x,vs,h1,h2,h3⟩:=h
   exact ⟨x,vs,h1.mods hm hT,h2.mods hm hT,ExsAt.modsTo hm hT l vs h3⟩
 | .new a l,v,h=>by
   simp only [ExAt] at h ⊢
   obtain ⟨x,h1,h2⟩:=h
   exact ⟨x,h1.mods hm hT,ExAt.modsTo hm hT l x h2⟩
 | .len a l,v,h=>by
   simp only [ExAt] at h ⊢
   obtain ⟨x,h1,h2⟩:=h
   exact ⟨x,h1.mods hm hT,ExAt.modsTo hm hT l x h2⟩
 | .item a l r,v,h=>by
   simp only [ExAt] at h ⊢
   obtain ⟨x,y,h1,h2,h3⟩:=h
   exact ⟨x,y,h1.mods hm hT,ExAt.modsTo hm hT l x h2,ExAt.modsTo hm hT r y h3⟩
 | .input a,v,h=>Node.mods (by simpa only [ExAt] using h) hm hT |> (by simp only [ExAt];exact ·)
theorem ExsAt.modsTo {W W':World} {S T:Nat→Prop} (hm:Mods S W W') (hT:∀ k,k<W.heap.size→T k→S k):(l:List Ex)→(vs:List Value)→ExsAt W S l vs→ExsAt W' T l vs
 | [],vs,h=>by simp only [ExsAt] at h ⊢;exact h
 | e::l,vs,h=>by
   simp only [ExsAt] at h ⊢
   obtain ⟨x,r,h1,h2,h3⟩:=h
   exact ⟨x,r,h1,ExAt.modsTo hm hT e x h2,ExsAt.modsTo hm hT l r h3⟩
end
theorem ExAt.mods {W W':World} {S:Nat→Prop} {e:Ex} {v:Value} (h:ExAt W S e v) (hm:Mods S W W'):ExAt W' S e v:=ExAt.modsTo hm (fun _ _ k=>k) e v h
theorem ExAt.ptr {W:World} {S:Nat→Prop} {e:Ex} {v:Value} (h:ExAt W S e v):∃ g,v=.pointer (some ⟨g,0,none⟩):=by
 have key:∀ cs,Node W S v cs→∃ g,v=.pointer (some ⟨g,0,none⟩):=fun cs h=>by
  obtain ⟨g,h1,_⟩:=h
  exact ⟨g,h1⟩
 cases e <;> simp only [ExAt] at h
 case num=>exact key _ h
 case var=>exact key _ h
 case bin=>obtain ⟨x,y,h,_⟩:=h;exact key _ h
 case un=>obtain ⟨x,h,_⟩:=h;exact key _ h
 case call=>obtain ⟨x,y,h,_⟩:=h;exact key _ h
 case new=>obtain ⟨x,h,_⟩:=h;exact key _ h
 case len=>obtain ⟨x,h,_⟩:=h;exact key _ h
 case item=>obtain ⟨x,y,h,_⟩:=h;exact key _ h
 case input=>exact key _ h
theorem ExsAt.append {W:World} {S:Nat→Prop} {e:Ex} {v:Value}:{l:List Ex}→{vs:List Value}→ExsAt W S l vs→ExAt W S e v→ExsAt W S (l++[e]) (vs++[v])
 | [],vs,h,he=>by
   simp only [ExsAt] at h
   subst h
   simp only [List.nil_append,ExsAt]
   exact ⟨v,[],rfl,he,rfl⟩
 | a::l,vs,h,he=>by
   simp only [ExsAt] at h
   obtain ⟨x,r,rfl,h2,h3⟩:=h
   simp only [List.cons_append,ExsAt]
   exact ⟨x,r++[v],rfl,h2,ExsAt.append h3 he⟩
theorem Node.new {S:Nat→Prop} {W:World} (hS:∀ k,S k→k<W.heap.size) (cs:Array Value):Node (W.alloc (.cells cs 223)) S (.pointer (some ⟨W.heap.size,0,none⟩)) cs.toList :=
 ⟨_,rfl,fun h=>absurd (hS _ h) (Nat.lt_irrefl _),Blk.new W cs _⟩
structure Rd (W:World) (b:Nat) (S:Nat→Prop) (ts:List Tok):Prop where
 par:Par W b ts
 lev:Levels W b
 rng:RangeAt W b
 has:S b
 old:∀ k,S k→k<W.heap.size
theorem Rd.next {W W':World} {b:Nat} {S:Nat→Prop} {ts r:List Tok} (h:Rd W b S ts) (hp:Par W' b r) (hm:Mods (·=b) W W'):Rd W' b S r :=
 ⟨hp,h.lev.mods hm,h.rng.far hm (fun k hk=>Nat.le_of_eq hk.symm),h.has,fun k hk=>Nat.lt_of_lt_of_le (h.old k hk) hm.size⟩
theorem Rd.quiet {W W':World} {b:Nat} {S:Nat→Prop} {ts:List Tok} (h:Rd W b S ts) (hm:Mods None W W'):Rd W' b S ts :=
 h.next (h.par.mods hm) (hm.mono fun _ _ f=>f.elim)
def lenOf (W:World) (b:Nat):Nat:=match W.cell? ⟨b,0,none⟩ with
 | some (.slice _ n _)=>n
 | _=>0
theorem Par.len {W:World} {b:Nat} {ts:List Tok} (h:Par W b ts):lenOf W b=ts.length:=by
 obtain ⟨g,o,c,h⟩:=h
 have:=h.blk.cell (i:=0) rfl
 unfold lenOf
 rw [this]
def ExIs (S:Nat→Prop) (e:Ex) (v:Value) (W:World):Prop:=ExAt W S e v
theorem ExAt.by {W W':World} {b:Nat} {S:Nat→Prop} {ts:List Tok} {e:Ex} {v:Value} (h:ExAt W S e v) (hR:Rd W b S ts) (hm:Mods (·=b) W W'):ExAt W' S e v :=
 h.mods (hm.mono fun k _ hk=>by rw [hk];exact hR.has)
theorem bind_of {α β:Type} {b:Nat} {S:Nat→Prop} {W0 W:World} {ts:List Tok} {p:PR α} {k:α→List Tok→PR β} {x:Except (Int×Int) (β×List Tok)} {F:FuncId} {args:Array Value} {V:α→Value→World→Prop} {Q:Ending→World→Prop}
 (hM:Hid (Mods (·=b) W0 W)) (hR:Hid (Rd W b S ts)) (hx:Hid (andThen p k=some x))
 (hc:∀ y,p=some y→Calls Tryz.prog F args W (Got (·=b) W b V (some y)))
 (herr:∀ n a,x=.error (n,a)→∀ g w,Hid (Blk w g [.int .i64 n,.int .i64 a] 136)→Hid (Mods (·=b) W0 w)→Q (.panicked [{ v:=wrongV g,recovered:=false }]) w)
 (hok:∀ v r,Hid (p=some (.ok (v,r)))→Hid (k v r=some x)→∀ xv w,V v xv w→Hid (Rd w b S r)→Hid (Mods (·=b) W w)→Hid (Mods (·=b) W0 w)→Q (.returned xv) w) :
 Calls Tryz.prog F args W Q:=by
 have hx:=hx.out
 cases hp:p with
 | none=>rw [hp] at hx;cases hx
 | some y =>
   refine (hc y hp).mono ?_
   intro e w h
   rw [hp] at hx
   cases y with
   | error q =>
     obtain ⟨n,a⟩:=q
     obtain ⟨g,rfl,hb,hm⟩:=h
     exact herr n a (Option.some.inj hx).symm g w (hiD hb) (hiD (hM.out.trans hm))
   | ok q =>
     obtain ⟨v,r⟩:=q
     obtain ⟨xv,rfl,hv,hpar,hm⟩:=h
     exact hok v r (hiD hp) (hiD hx) xv w hv (hiD (hR.out.next hpar hm)) (hiD hm) (hiD (hM.out.trans hm))
theorem tail_of {β:Type} {b:Nat} {S:Nat→Prop} {W0 W:World} {ts:List Tok} {p:PR β} {x:Except (Int×Int) (β×List Tok)} {F:FuncId} {args:Array Value} {V:β→Value→World→Prop} {Q:Ending→World→Prop}
 (hM:Hid (Mods (·=b) W0 W)) (hR:Hid (Rd W b S ts)) (hx:Hid (p=some x))
 (hc:∀ y,p=some y→Calls Tryz.prog F args W (Got (·=b) W b V (some y)))
 (herr:∀ n a,x=.error (n,a)→∀ g w,Hid (Blk w g [.int .i64 n,.int .i64 a] 136)→Hid (Mods (·=b) W0 w)→Q (.panicked [{ v:=wrongV g,recovered:=false }]) w)
 (hok:∀ v r,x=.ok (v,r)→∀ xv w,V v xv w→Hid (Rd w b S r)→Hid (Mods (·=b) W w)→Hid (Mods (·=b) W0 w)→Q (.returned xv) w) :
 Calls Tryz.prog F args W Q:=by
 have hx:=hx.out
 refine (hc x hx).mono ?_
 intro e w h
 cases x with
 | error q =>
   obtain ⟨n,a⟩:=q
   obtain ⟨g,rfl,hb,hm⟩:=h
   exact herr n a rfl g w (hiD hb) (hiD (hM.out.trans hm))
 | ok q =>
   obtain ⟨v,r⟩:=q
   obtain ⟨xv,rfl,hv,hpar,hm⟩:=h
   exact hok v r rfl xv w hv (hiD (hR.out.next hpar hm)) (hiD hm) (hiD (hM.out.trans hm))
theorem bind_cases {α β:Type} {p:PR α} {k:α→List Tok→PR β} {x:Except (Int×Int) (β×List Tok)} (hx:Hid (andThen p k=some x)) :
 (∃ n a,p=some (.error (n,a))∧x=.error (n,a))∨∃ v r,p=some (.ok (v,r))∧Hid (k v r=some x):=by
 have hx:=hx.out
 cases hp:p with
 | none=>rw [hp] at hx;cases hx
 | some y =>
   rw [hp] at hx
   cases y with
   | error q=>exact Or.inl ⟨q.1,q.2,rfl,(Option.some.inj hx).symm⟩
   | ok q=>exact Or.inr ⟨q.1,q.2,rfl,hiD hx⟩
theorem must_any (b:Nat) (s:List UInt8) (ts:List Tok) (W:World) (h:Par W b ts) :
 Calls Tryz.prog 60 #[.pointer (some ⟨b,0,none⟩),str s] W (Got (·=b) W b (fun (_:Unit) v _=>v=.tuple #[]) (must s ts)):=by
 unfold must
 cases hs:seeB s ts
 · rw [if_neg (by simp)]
   exact (must_no b s ts W h hs).mono fun e w k=>k.mono fun _ f=>f.elim
 · rw [if_pos rfl]
   exact (must_yes b s ts W h hs).mono fun e w k=>⟨_,k.1,rfl,k.2.1,k.2.2⟩
theorem must_of {β:Type} {b:Nat} {S:Nat→Prop} {W0 W:World} {s:List UInt8} {ts:List Tok} {k:Unit→List Tok→PR β} {x:Except (Int×Int) (β×List Tok)} {Q:Ending→World→Prop}
 (hM:Hid (Mods (·=b) W0 W)) (hR:Hid (Rd W b S ts)) (hx:Hid (andThen (must s ts) k=some x))
 (herr:∀ n a,x=.error (n,a)→∀ g w,Hid (Blk w g [.int .i64 n,.int .i64 a] 136)→Hid (Mods (·=b) W0 w)→Q (.panicked [{ v:=wrongV g,recovered:=false }]) w)
 (hok:∀ r,Hid (seeB s ts=true∧r=ts.tail)→Hid (k () r=some x)→∀ w,Hid (Rd w b S r)→Hid (Mods (·=b) W w)→Hid (Mods (·=b) W0 w)→Q (.returned (.tuple #[])) w) :
 Calls Tryz.prog 60 #[.pointer (some ⟨b,0,none⟩),str s] W Q:=by
 refine bind_of hM hR hx (fun y hy=>hy ▸ must_any b s ts W hR.out.par) herr ?_
 rintro v r hp hk xv w rfl h1 h2 h3
 have:=must_ok hp.out
 exact hok r (hiD ⟨this.2,this.1⟩) hk w h1 h2 h3
theorem name_of {β:Type} {b:Nat} {S:Nat→Prop} {W0 W:World} {ts:List Tok} {k:List UInt8→List Tok→PR β} {x:Except (Int×Int) (β×List Tok)} {Q:Ending→World→Prop}
 (hM:Hid (Mods (·=b) W0 W)) (hR:Hid (Rd W b S ts)) (hx:Hid (andThen (nameP ts) k=some x))
 (herr:∀ n a,x=.error (n,a)→∀ g w,Hid (Blk w g [.int .i64 n,.int .i64 a] 136)→Hid (Mods (·=b) W0 w)→Q (.panicked [{ v:=wrongV g,recovered:=false }]) w)
 (hok:∀ s r,Hid (nameP ts=some (.ok (s,r)))→Hid (k s r=some x)→∀ w,Hid (Rd w b S r)→Hid (Mods (·=b) W w)→Hid (Mods (·=b) W0 w)→Q (.returned (.string ⟨s.toArray⟩)) w) :
 Calls Tryz.prog 61 #[.pointer (some ⟨b,0,none⟩)] W Q:=by
 refine bind_of hM hR hx (fun y hy=>hy ▸ name_any b ts W hR.out.par) herr ?_
 rintro v r hp hk xv w rfl h1 h2 h3
 exact hok v r hp hk w h1 h2 h3
theorem take_of {β:Type} {b:Nat} {S:Nat→Prop} {W0 W:World} {s:List UInt8} {ts:List Tok} {A B x:β} {Q:Ending→World→Prop}
 (hM:Hid (Mods (·=b) W0 W)) (hR:Hid (Rd W b S ts)) (hx:Hid ((if seeB s ts then A else B)=x))
 (hyes:Hid (seeB s ts=true)→Hid (A=x)→∀ w,Hid (Rd w b S ts.tail)→Hid (Mods (·=b) W w)→Hid (Mods (·=b) W0 w)→Q (.returned (.bool true)) w)
 (hno:Hid (seeB s ts=false)→Hid (B=x)→Q (.returned (.bool false)) W) :
 Calls Tryz.prog 62 #[.pointer (some ⟨b,0,none⟩),str s] W Q:=by
 have hx:=hx.out
 cases hs:seeB s ts
 · rw [hs,if_neg (by simp)] at hx
   refine (take_no b s ts W hR.out.par hs).mono ?_
   rintro e w ⟨rfl,rfl⟩
   exact hno (hiD hs) (hiD hx)
 · rw [hs,if_pos rfl] at hx
   refine (take_yes b s ts W hR.out.par hs).mono ?_
   rintro e w ⟨rfl,hp,hm⟩
   exact hyes (hiD hs) (hiD hx) w (hiD (hR.out.next hp hm)) (hiD hm) (hiD (hM.out.trans hm))
theorem see_of {β:Type} {b:Nat} {S:Nat→Prop} {W:World} {s:List UInt8} {ts:List Tok} {A B x:β} {Q:Ending→World→Prop}
 (hR:Hid (Rd W b S ts)) (hx:Hid ((if seeB s ts then A else B)=x))
 (hyes:Hid (seeB s ts=true)→Hid (A=x)→Q (.returned (.bool true)) W)
 (hno:Hid (seeB s ts=false)→Hid (B=x)→Q (.returned (.bool false)) W) :
 Calls Tryz.prog 93 #[.pointer (some ⟨b,0,none⟩),str s] W Q:=by
 have hx:=hx.out
 refine (see_any b s ts W hR.out.par).mono ?_
 rintro e w ⟨rfl,rfl⟩
 cases hs:seeB s ts
 · rw [hs,if_neg (by simp)] at hx
   exact hno (hiD hs) (hiD hx)
 · rw [hs,if_pos rfl] at hx
   exact hyes (hiD hs) (hiD hx)
theorem fail_of {b:Nat} {S:Nat→Prop} {W0 W:World} {ts:List Tok} {β:Type} {n:Int} {x:Except (Int×Int) (β×List Tok)} {Q:Ending→World→Prop}
 (hM:Hid (Mods (·=b) W0 W)) (hR:Hid (Rd W b S ts)) (hx:Hid ((failP n ts:PR β)=some x))
 (herr:∀ n a,x=.error (n,a)→∀ g w,Hid (Blk w g [.int .i64 n,.int .i64 a] 136)→Hid (Mods (·=b) W0 w)→Q (.panicked [{ v:=wrongV g,recovered:=false }]) w) :
 Calls Tryz.prog 30 #[.pointer (some ⟨b,0,none⟩),.int .i64 n] W Q:=by
 refine (fail_any b n ts W hR.out.par).mono ?_
 rintro e w ⟨g,rfl,hb,hm⟩
 exact herr n (headAt ts) (Option.some.inj hx.out).symm g w (hiD hb) (hiD (hM.out.trans (hm.mono fun _ _ f=>f.elim)))
def ExprC (f:Nat):Prop:=∀ (b:Nat) (S:Nat→Prop) (level deep:Nat) (ts:List Tok) (W:World) (x:Except (Int×Int) (Ex×List Tok)),level≤6→deep≤14→Rd W b S ts→exprF f level deep ts=some x →
 Calls Tryz.prog 114 #[.pointer (some ⟨b,0,none⟩),.int .i64 level,.int .i64 deep] W (Got (·=b) W b (ExIs S) (some x))
def UnaryC (f:Nat):Prop:=∀ (b:Nat) (S:Nat→Prop) (deep:Nat) (ts:List Tok) (W:World) (x:Except (Int×Int) (Ex×List Tok)),deep≤14→Rd W b S ts→unaryF f deep ts=some x →
 Calls Tryz.prog 126 #[.pointer (some ⟨b,0,none⟩),.int .i64 deep] W (Got (·=b) W b (ExIs S) (some x))
def FirstC (f:Nat):Prop:=∀ (b:Nat) (S:Nat→Prop) (deep:Nat) (ts:List Tok) (W:World) (x:Except (Int×Int) (Ex×List Tok)),deep≤13→Rd W b S ts→firstF f deep ts=some x →
 Calls Tryz.prog 133 #[.pointer (some ⟨b,0,none⟩),.int .i64 deep] W (Got (·=b) W b (ExIs S) (some x))
def AloneC (f:Nat):Prop:=∀ (b:Nat) (S:Nat→Prop) (deep:Nat) (ts:List Tok) (W:World) (x:Except (Int×Int) (Ex×List Tok)),deep≤13→Rd W b S ts→aloneF f deep ts=some x →
 Calls Tryz.prog 113 #[.pointer (some ⟨b,0,none⟩),.int .i64 deep] W (Got (·=b) W b (ExIs S) (some x))
def ArgsC (f:Nat):Prop:=∀ (b:Nat) (S:Nat→Prop) (deep:Nat) (ts:List Tok) (W:World) (x:Except (Int×Int) (List Ex×List Tok)),deep≤13→Rd W b S ts→argsF f deep ts=some x →
 Calls Tryz.prog 128 #[.pointer (some ⟨b,0,none⟩),.int .i64 deep] W (Got (·=b) W b (fun l v w=>∃ vs,RowAt w S 141 1 v l.length vs∧ExsAt w S l vs) (some x))
def Own (S:Nat→Prop) (v:Value):Nat→Prop:=fun k=>S k∨v.ownBlock=some k
structure Grows (W:World) (B:Nat) (S:Nat→Prop) (e:TypeId) (size:Nat) (v:Value) (n:Nat) (vs:List Value):Prop where
 row:W.ownsRow B e size v n vs
 base:B≤W.heap.size
 below:∀ k,S k→k<B
theorem Grows.nil {W:World} {S:Nat→Prop} (e:TypeId) (size:Nat) {b:Nat} {ts:List Tok} (hR:Rd W b S ts) {W':World} (hm:Mods (·=b) W W'):Grows W' W.heap.size S e size nilS 0 [] :=
 ⟨World.ownsRow_nil _ _ _ _,hm.size,hR.old⟩
theorem Grows.apart {W:World} {B:Nat} {S:Nat→Prop} {e:TypeId} {size n:Nat} {v:Value} {vs:List Value} (h:Grows W B S e size v n vs) {k:Nat} (hk:v.ownBlock=some k):¬ S k∧k<W.heap.size:=by
 have:=h.row.lt k hk
 exact ⟨fun hs=>by have:=h.below k hs;omega,this.2⟩
theorem Grows.rd {W:World} {B:Nat} {S:Nat→Prop} {e:TypeId} {size n:Nat} {v:Value} {vs:List Value} (h:Grows W B S e size v n vs) {b:Nat} {ts:List Tok} (hR:Rd W b S ts):Rd W b (Own S v) ts :=
 ⟨hR.par,hR.lev,hR.rng,Or.inl hR.has,fun k hk=>hk.elim (hR.old k) (fun h2=>(h.apart h2).2)⟩
theorem Grows.next {W W':World} {B:Nat} {S:Nat→Prop} {e:TypeId} {size n:Nat} {v:Value} {vs:List Value} (h:Grows W B S e size v n vs) {b:Nat} (hb:S b) (hm:Mods (·=b) W W'):Grows W' B S e size v n vs :=
 ⟨hm.ownsRow h.row (fun k hk e=>(h.apart hk).1 (e ▸ hb)),Nat.le_trans h.base hm.size,h.below⟩
theorem Grows.alloc {W:World} {B:Nat} {S:Nat→Prop} {e:TypeId} {size n:Nat} {v:Value} {vs:List Value} (h:Grows W B S e size v n vs) (o:Obj):Grows (W.alloc o) B S e size v n vs :=
 ⟨h.row.alloc o,Nat.le_trans h.base (by simp),h.below⟩
structure Grew (W W':World) (v v':Value):Prop where
 mods:Mods (fun k=>v.ownBlock=some k) W W'
 loc:v'.ownBlock=v.ownBlock∨v'.ownBlock=some W.heap.size
theorem grew_of {W W':World} {v v':Value} (hg:W.grownBy W' v.ownBlock) (hl:v'.ownBlock=v.ownBlock∨v'.ownBlock=some W.heap.size):Grew W W' v v' :=
 ⟨Mods.of_grownBy hg (fun k hk _=>hk),hl⟩
theorem Grew.own {W W':World} {v v':Value} (h:Grew W W' v v') {S:Nat→Prop}:Mods (Own S v) W W':=h.mods.mono fun _ _ hk=>Or.inr hk
theorem Grew.to {W W':World} {v v':Value} (h:Grew W W' v v') {S:Nat→Prop}:∀ k,k<W.heap.size→Own S v' k→Own S v k:=by
 rintro k hk (hs|hs)
 · exact Or.inl hs
 · rcases h.loc with hl|hl
   · exact Or.inr (hl ▸ hs)
   · rw [hl] at hs
     cases hs
     omega
theorem Grows.grew {W W':World} {B:Nat} {S:Nat→Prop} {e:TypeId} {size n m:Nat} {v v':Value} {vs ws:List Value} (h:Grows W B S e size v n vs) (hg:Grew W W' v v') (hr:W'.ownsRow B e size v' m ws):Grows W' B S e size v' m ws :=
 ⟨hr,Nat.le_trans h.base hg.mods.size,h.below⟩
theorem Grows.far {W:World} {B:Nat} {S:Nat→Prop} {e:TypeId} {size n:Nat} {v:Value} {vs:List Value} (h:Grows W B S e size v n vs) {b:Nat} (hb:S b):∀ k,v.ownBlock=some k→b<k:=fun k hk =>
 Nat.lt_of_lt_of_le (h.below b hb) (h.row.lt k hk).1
theorem Grows.rdGrew {W W':World} {B:Nat} {S:Nat→Prop} {e:TypeId} {size n:Nat} {v v':Value} {vs:List Value} (h:Grows W B S e size v n vs) (hg:Grew W W' v v') {b:Nat} {ts:List Tok} (hR:Rd W b S ts):Rd W' b S ts :=
 ⟨hR.par.far hg.mods (h.far hR.has),hR.lev.far hg.mods (fun k hk=>Nat.le_of_lt (h.far hR.has k hk)),hR.rng.far hg.mods (fun k hk=>Nat.le_of_lt (h.far hR.has k hk)),hR.has,fun k hk=>Nat.lt_of_lt_of_le (hR.old k hk) hg.mods.size⟩
theorem Grows.modsGrew {W0 W W':World} {S:Nat→Prop} {e:TypeId} {size n:Nat} {v v':Value} {vs:List Value} (h:Grows W W0.heap.size S e size v n vs) (hg:Grew W W' v v') {b:Nat} (hm:Mods (·=b) W0 W):Mods (·=b) W0 W' :=
 hm.trans' hg.mods (fun i hi h0=>by have:=(h.row.lt i hi).1;omega)
theorem Grows.form {W:World} {B:Nat} {S:Nat→Prop} {e:TypeId} {size n:Nat} {v:Value} {vs:List Value} (h:Grows W B S e size v n vs):∃ oa on oc,v=.slice oa on oc:=by
 rcases h.row.2 with ⟨hv,_⟩|⟨g,cap,cur,hv,_⟩
 · exact ⟨_,_,_,hv⟩
 · exact ⟨_,_,_,hv⟩
theorem Grows.rowAt {W:World} {B:Nat} {S:Nat→Prop} {e:TypeId} {size n:Nat} {v:Value} {vs:List Value} (h:Grows W B S e size v n vs):RowAt W S e size v n vs :=
 ⟨Go.Joins.ownsRow_le h.row (Nat.zero_le _),fun k hk=>(h.apart hk).1⟩
theorem own_sub {S:Nat→Prop} {v:Value} {n:Nat}:∀ k,k<n→S k→Own S v k:=fun _ _ h=>Or.inl h
theorem one_new (W:World) (v:Value) (e:TypeId):∀ j u,[v][j]?=some u→(W.alloc (.cells #[v] e)).cell? ((⟨W.heap.size,0,none⟩:Addr).add j)=some u:=by
 intro j u hj
 cases j with
 | zero=>exact (Blk.new W #[v] e).cell (i:=0) (v:=u) hj
 | succ j=>simp at hj
theorem ptr_one (g:Nat):∀ u∈[Value.pointer (some ⟨g,0,none⟩)],u.oneCell'=true:=by
 intro u hu
 simp only [List.mem_singleton] at hu
 subst hu
 rfl
theorem RowAt.form {W:World} {S:Nat→Prop} {e:TypeId} {size n:Nat} {v:Value} {vs:List Value} (h:RowAt W S e size v n vs):∃ oa on oc,v=.slice oa on oc:=by
 rcases h.1.2 with ⟨hv,_⟩|⟨g,cap,cur,hv,_⟩
 · exact ⟨_,_,_,hv⟩
 · exact ⟨_,_,_,hv⟩
theorem ptr_info:(Tryz.prog.info? 141).map (fun i=>(i.zero,i.size,i.bytes))=some (some (.pointer none),1,8):=by kernel_rfl
def cells7 (code a:Int) (name:List UInt8) (i v t e:Value):List Value:=[.int .i64 code,.int .i64 a,str name,i,v,t,e]
mutual
def StAt (W:World) (S:Nat→Prop):St→List Value→Prop
 | .var a s v,cs=>∃ x,cs=cells7 1 a s nilP x nilS nilS∧ExAt W S v x
 | .set a s v,cs=>∃ x,cs=cells7 2 a s nilP x nilS nilS∧ExAt W S v x
 | .put a s i v,cs=>∃ x y,cs=cells7 3 a s x y nilS nilS∧ExAt W S i x∧ExAt W S v y
 | .cond a v t e,cs=>∃ x p vp q vq,cs=cells7 4 a [] nilP x p q∧ExAt W S v x∧RowAt W S 143 7 p t.length vp∧StsAt W S t vp∧RowAt W S 143 7 q e.length vq∧StsAt W S e vq
 | .loop a v t,cs=>∃ x p vp,cs=cells7 5 a [] nilP x p nilS∧ExAt W S v x∧RowAt W S 143 7 p t.length vp∧StsAt W S t vp
 | .ret a v,cs=>∃ x,cs=cells7 6 a [] nilP x nilS nilS∧ExAt W S v x
 | .print a v,cs=>∃ x,cs=cells7 7 a [] nilP x nilS nilS∧ExAt W S v x
 | .call a v,cs=>∃ x,cs=cells7 8 a [] nilP x nilS nilS∧ExAt W S v x
def StsAt (W:World) (S:Nat→Prop):List St→List Value→Prop
 | [],vs=>vs=[]
 | s::l,vs=>∃ cs r,vs=cs++r∧StAt W S s cs∧StsAt W S l r
end
mutual
theorem StAt.modsTo {W W':World} {S T:Nat→Prop} (hm:Mods S W W') (hT:∀ k,k<W.heap.size→T k→S k):(s:St)→(cs:List Value)→StAt W S s cs→StAt W' T s cs
 | .var a n v,cs,h=>by
   simp only [StAt] at h ⊢
   obtain ⟨x,h1,h2⟩:=h
   exact ⟨x,h1,ExAt.modsTo hm hT _ _ h2⟩
 | .set a n v,cs,h=>by
   simp only [StAt] at h ⊢
   obtain ⟨x,h1,h2⟩:=h
   exact ⟨x,h1,ExAt.modsTo hm hT _ _ h2⟩
 | .put a n i v,cs,h=>by
   simp only [StAt] at h ⊢
   obtain ⟨x,y,h1,h2,h3⟩:=h
   exact ⟨x,y,h1,ExAt.modsTo hm hT _ _ h2,ExAt.modsTo hm hT _ _ h3⟩
 | .cond a v t e,cs,h=>by
   simp only [StAt] at h ⊢
   obtain ⟨x,p,vp,q,vq,h1,h2,h3,h4,h5,h6⟩:=h
   exact ⟨x,p,vp,q,vq,h1,ExAt.modsTo hm hT _ _ h2,h3.mods hm hT,StsAt.modsTo hm hT t vp h4,h5.mods hm hT,StsAt.modsTo hm hT e vq h6⟩
 | .loop a v t,cs,h=>by
   simp only [StAt] at h ⊢
   obtain ⟨x,p,vp,h1,h2,h3,h4⟩:=h
   exact ⟨x,p,vp,h1,ExAt.modsTo hm hT _ _ h2,h3.mods hm hT,StsAt.modsTo hm hT t vp h4⟩
 | .ret a v,cs,h=>by
   simp only [StAt] at h ⊢
   obtain ⟨x,h1,h2⟩:=h
   exact ⟨x,h1,ExAt.modsTo hm hT _ _ h2⟩
 | .print a v,cs,h=>by
   simp only [StAt] at h ⊢
   obtain ⟨x,h1,h2⟩:=h
   exact ⟨x,h1,ExAt.modsTo hm hT _ _ h2⟩
 | .call a v,cs,h=>by
   simp only [StAt] at h ⊢
   obtain ⟨x,h1,h2⟩:=h
   exact ⟨x,h1,ExAt.modsTo hm hT _ _ h2⟩
theorem StsAt.modsTo {W W':World} {S T:Nat→Prop} (hm:Mods S W W') (hT:∀ k,k<W.heap.size→T k→S k):(l:List St)→(vs:List Value)→StsAt W S l vs→StsAt W' T l vs
 | [],vs,h=>by simp only [StsAt] at h ⊢;exact h
 | s::l,vs,h=>by
   simp only [StsAt] at h ⊢
   obtain ⟨cs,r,h1,h2,h3⟩:=h
   exact ⟨cs,r,h1,StAt.modsTo hm hT s cs h2,StsAt.modsTo hm hT l r h3⟩
end
theorem StsAt.append {W:World} {S:Nat→Prop} {s:St} {cs:List Value}:{l:List St}→{vs:List Value}→StsAt W S l vs→StAt W S s cs→StsAt W S (l++[s]) (vs++cs)
 | [],vs,h,hs=>by
   simp only [StsAt] at h
   subst h
   simp only [List.nil_append,StsAt]
   exact ⟨cs,[],by simp,hs,rfl⟩
 | a::l,vs,h,hs=>by
   simp only [StsAt] at h
   obtain ⟨ds,r,rfl,h2,h3⟩:=h
   simp only [List.cons_append,StsAt]
   exact ⟨ds,r++cs,by simp,h2,StsAt.append h3 hs⟩
theorem StAt.shape {W:World} {S:Nat→Prop} {s:St} {cs:List Value} (h:StAt W S s cs):∃ code a name p q oa on oc ob om od,cs=[.int .i64 code,.int .i64 a,.string name,.pointer p,.pointer q,.slice oa on oc,.slice ob om od]:=by
 cases s <;> simp only [StAt] at h
 case var=>obtain ⟨x,rfl,h2⟩:=h;obtain ⟨g,rfl⟩:=h2.ptr;exact ⟨_,_,_,_,_,_,_,_,_,_,_,rfl⟩
 case set=>obtain ⟨x,rfl,h2⟩:=h;obtain ⟨g,rfl⟩:=h2.ptr;exact ⟨_,_,_,_,_,_,_,_,_,_,_,rfl⟩
 case put=>obtain ⟨x,y,rfl,h2,h3⟩:=h;obtain ⟨g,rfl⟩:=h2.ptr;obtain ⟨g,rfl⟩:=h3.ptr;exact ⟨_,_,_,_,_,_,_,_,_,_,_,rfl⟩
 case cond=>obtain ⟨x,p,vp,q,vq,rfl,h2,h3,_,h5,_⟩:=h;obtain ⟨g,rfl⟩:=h2.ptr;obtain ⟨_,_,_,rfl⟩:=h3.form;obtain ⟨_,_,_,rfl⟩:=h5.form;exact ⟨_,_,_,_,_,_,_,_,_,_,_,rfl⟩
 case loop=>obtain ⟨x,p,vp,rfl,h2,h3,_⟩:=h;obtain ⟨g,rfl⟩:=h2.ptr;obtain ⟨_,_,_,rfl⟩:=h3.form;exact ⟨_,_,_,_,_,_,_,_,_,_,_,rfl⟩
 case ret=>obtain ⟨x,rfl,h2⟩:=h;obtain ⟨g,rfl⟩:=h2.ptr;exact ⟨_,_,_,_,_,_,_,_,_,_,_,rfl⟩
 case print=>obtain ⟨x,rfl,h2⟩:=h;obtain ⟨g,rfl⟩:=h2.ptr;exact ⟨_,_,_,_,_,_,_,_,_,_,_,rfl⟩
 case call=>obtain ⟨x,rfl,h2⟩:=h;obtain ⟨g,rfl⟩:=h2.ptr;exact ⟨_,_,_,_,_,_,_,_,_,_,_,rfl⟩
def StsIs (S:Nat→Prop) (l:List St) (v:Value) (w:World):Prop:=∃ vs,RowAt w S 143 7 v l.length vs∧StsAt w S l vs
def BlockC (f:Nat):Prop:=∀ (b:Nat) (S:Nat→Prop) (deep:Nat) (ts:List Tok) (W:World) (x:Except (Int×Int) (List St×List Tok)),deep≤13→Rd W b S ts→blockF f deep ts=some x →
 Calls Tryz.prog 63 #[.pointer (some ⟨b,0,none⟩),.int .i64 deep] W (Got (·=b) W b (StsIs S) (some x))
def StmtC (f:Nat):Prop:=∀ (b:Nat) (S:Nat→Prop) (deep:Nat) (ts:List Tok) (W:World) (x:Except (Int×Int) (St×List Tok)),deep≤12→Rd W b S ts→stmtF f deep ts=some x →
 Calls Tryz.prog 94 #[.pointer (some ⟨b,0,none⟩),.int .i64 deep] W (Got (·=b) W b (fun s v w=>∃ cs,v=.agg cs.toArray∧StAt w S s cs) (some x))
def Two (b sb:Nat):Nat→Prop:=fun k=>k=b∨k=sb
def NamedC (f:Nat):Prop:=∀ (b sb:Nat) (S:Nat→Prop) (ts:List Tok) (W:World) (x:Except (Int×Int) (St×List Tok)),S sb→b<sb→Rd W b S ts→Blk W sb (cells7 0 (headAt ts) [] nilP nilP nilS nilS) 143→namedF f ts=some x →
 Calls Tryz.prog 115 #[.pointer (some ⟨b,0,none⟩),.pointer (some ⟨sb,0,none⟩)] W (Got (Two b sb) W b (fun s v w=>v=.tuple #[]∧∃ cs,Blk w sb cs 143∧StAt w S s cs) (some x))
theorem Rd.far {W W':World} {b:Nat} {S T:Nat→Prop} {ts:List Tok} (h:Rd W b S ts) (hm:Mods T W W') (hT:∀ k,T k→b<k):Rd W' b S ts :=
 ⟨h.par.far hm hT,h.lev.far hm (fun k hk=>Nat.le_of_lt (hT k hk)),h.rng.far hm (fun k hk=>Nat.le_of_lt (hT k hk)),h.has,fun k hk=>Nat.lt_of_lt_of_le (h.old k hk) hm.size⟩
theorem blk_put {W:World} {g:Nat} {cs:List Value} {t:TypeId} (h:Blk W g cs t) (i:Nat) (v:Value) {ds:List Value} (he:cs.set i v=ds):Blk (W.setCell ⟨g,i,none⟩ v) g ds t:=he ▸ h.set i v
theorem mods_put (W:World) (g i:Nat) (v:Value):Mods (·=g) W (W.setCell ⟨g,i,none⟩ v):=Mods.setCell (S:=(·=g)) (p:=⟨g,i,none⟩) (Mods.refl _ _) (fun _=>rfl) _
theorem mods_one {b sb:Nat} {W W':World} (h:Mods (·=b) W W'):Mods (Two b sb) W W':=h.mono fun _ _ k=>Or.inl k
theorem mods_two {b sb:Nat} {W W':World} (h:Mods (·=sb) W W'):Mods (Two b sb) W W':=h.mono fun _ _ k=>Or.inr k
def Three (S:Nat→Prop) (n:Nat):Nat→Prop:=fun k=>S k∨k=n∨k=n+1
def zeros7:List Value:=[.int .i64 0,.int .i64 0,.string ⟨#[]⟩,.pointer none,.pointer none,.slice none 0 0,.slice none 0 0]
structure Stm (W w:World) (b:Nat) (S:Nat→Prop) (ts:List Tok) (cs:List Value):Prop where
 rd:Rd w b (Three S W.heap.size) ts
 own:Blk w (W.heap.size+1) cs 143
 res:Blk w W.heap.size zeros7 143
 mods:Mods (·=b) W w
 lt:b<W.heap.size
theorem Stm.start {W:World} {b:Nat} {S:Nat→Prop} {ts:List Tok} (h:Rd W b S ts) (ta:Int) :
 Stm W ((W.alloc (.cells #[.int .i64 0,.int .i64 0,.string ⟨#[]⟩,.pointer none,.pointer none,.slice none 0 0,.slice none 0 0] 143)).alloc (.cells #[.int .i64 0,.int .i64 ta,.string ⟨#[]⟩,.pointer none,.pointer none,.slice none 0 0,.slice none 0 0] 143)) b S ts (cells7 0 ta [] nilP nilP nilS nilS):=by
 have hR:=h.quiet (((Mods.refl None W).alloc (.cells #[.int .i64 0,.int .i64 0,.string ⟨#[]⟩,.pointer none,.pointer none,.slice none 0 0,.slice none 0 0] 143)).alloc (.cells #[.int .i64 0,.int .i64 ta,.string ⟨#[]⟩,.pointer none,.pointer none,.slice none 0 0,.slice none 0 0] 143))
 have h1:=Blk.new W #[.int .i64 0,.int .i64 0,.string ⟨#[]⟩,.pointer none,.pointer none,.slice none 0 0,.slice none 0 0] 143
 have h2:=Blk.new (W.alloc (.cells #[.int .i64 0,.int .i64 0,.string ⟨#[]⟩,.pointer none,.pointer none,.slice none 0 0,.slice none 0 0] 143)) #[.int .i64 0,.int .i64 ta,.string ⟨#[]⟩,.pointer none,.pointer none,.slice none 0 0,.slice none 0 0] 143
 rw [show (W.alloc (.cells #[.int .i64 0,.int .i64 0,.string ⟨#[]⟩,.pointer none,.pointer none,.slice none 0 0,.slice none 0 0] 143)).heap.size=W.heap.size+1 by simp] at h2
 refine ⟨⟨hR.par,hR.lev,hR.rng,Or.inl hR.has,?_⟩,h2,h1.alloc _,((Mods.refl _ _).alloc _).alloc _,h.old b h.has⟩
 have:=h2.lt
 rintro k (hk|rfl|rfl)
 · have:=h.old k hk
   omega
 · omega
 · omega
theorem Stm.next {W w w':World} {b:Nat} {S:Nat→Prop} {ts r:List Tok} {cs:List Value} (h:Stm W w b S ts cs) (hr:Rd w' b (Three S W.heap.size) r) (hm:Mods (·=b) w w'):Stm W w' b S r cs :=
 ⟨hr,h.own.mods hm (by have:=h.lt;omega),h.res.mods hm (by have:=h.lt;omega),h.mods.trans hm,h.lt⟩
theorem Stm.putMods {W w:World} {b:Nat} {S:Nat→Prop} {ts:List Tok} {cs:List Value} (h:Stm W w b S ts cs) (i:Nat) (v:Value):Mods (Three S W.heap.size) w (w.setCell ⟨W.heap.size+1,i,none⟩ v) :=
 (mods_put w (W.heap.size+1) i v).mono fun k _ hk=>Or.inr (Or.inr hk)
theorem Stm.put {W w:World} {b:Nat} {S:Nat→Prop} {ts:List Tok} {cs:List Value} (h:Stm W w b S ts cs) (i:Nat) (v:Value) {ds:List Value} (he:cs.set i v=ds):Stm W (w.setCell ⟨W.heap.size+1,i,none⟩ v) b S ts ds :=
 have hl:=h.lt
 ⟨h.rd.far (mods_put w (W.heap.size+1) i v) (by rintro k rfl;omega),blk_put h.own i v he,h.res.mods (mods_put w (W.heap.size+1) i v) (by omega),h.mods.trans' (mods_put w (W.heap.size+1) i v) (by rintro k rfl hk;omega),h.lt⟩
theorem sub_three {S:Nat→Prop} {n m:Nat}:∀ k,k<m→S k→Three S n k:=fun _ _ h=>Or.inl h
theorem Stm.ret {W w:World} {b:Nat} {S:Nat→Prop} {ts:List Tok} {z0 z1 z2 z3 z4 z5 z6:Value} (h:Stm W w b S ts [z0,z1,z2,z3,z4,z5,z6]) {wf:World}
 (hw:wf=((((((w.setCell ⟨W.heap.size,0,none⟩ z0).setCell ⟨W.heap.size,1,none⟩ z1).setCell ⟨W.heap.size,2,none⟩ z2).setCell ⟨W.heap.size,3,none⟩ z3).setCell ⟨W.heap.size,4,none⟩ z4).setCell ⟨W.heap.size,5,none⟩ z5).setCell ⟨W.heap.size,6,none⟩ z6) :
 Blk wf W.heap.size [z0,z1,z2,z3,z4,z5,z6] 143∧Mods (·=b) W wf∧Par wf b ts∧Mods (Three S W.heap.size) w wf:=by
 have hm:Mods (·=W.heap.size) w wf:=by
  rw [hw]
  exact ((((((mods_put w _ 0 z0).trans (mods_put _ _ 1 z1)).trans (mods_put _ _ 2 z2)).trans (mods_put _ _ 3 z3)).trans (mods_put _ _ 4 z4)).trans (mods_put _ _ 5 z5)).trans (mods_put _ _ 6 z6)
 refine ⟨?_,h.mods.trans' hm (by rintro k rfl hk;omega),h.rd.par.far hm (by rintro k rfl;exact h.lt),hm.mono fun k _ hk=>Or.inr (Or.inl hk)⟩
 rw [hw]
 exact blk_put (blk_put (blk_put (blk_put (blk_put (blk_put (blk_put h.res 0 z0 rfl) 1 z1 rfl) 2 z2 rfl) 3 z3 rfl) 4 z4 rfl) 5 z5 rfl) 6 z6 rfl
theorem Stm.two {W w w':World} {b:Nat} {S:Nat→Prop} {ts r:List Tok} {cs ds:List Value} (h:Stm W w b S ts cs) (hp:Par w' b r) (hb:Blk w' (W.heap.size+1) ds 143) (hm:Mods (Two b (W.heap.size+1)) w w'):Stm W w' b S r ds :=
 have hl:=h.lt
 ⟨⟨hp,h.rd.lev.far hm (by rintro k (rfl|rfl);exact Nat.le_refl _;omega),h.rd.rng.far hm (by rintro k (rfl|rfl);exact Nat.le_refl _;omega),h.rd.has,fun k hk=>Nat.lt_of_lt_of_le (h.rd.old k hk) hm.size⟩,hb,h.res.mods hm (by rintro (h1|h1) <;> omega),h.mods.trans' hm (by rintro k (rfl|rfl) hk;rfl;omega),h.lt⟩
theorem stmt_info:(Tryz.prog.info? 143).map (fun i=>(i.zero,i.size,i.bytes))=some (some (.agg #[.int .i64 0,.int .i64 0,.string ⟨#[]⟩,.pointer none,.pointer none,.slice none 0 0,.slice none 0 0]),7,96):=by kernel_rfl
theorem andThen_assoc {α β γ:Type} (p:PR α) (k:α→List Tok→PR β) (K:β→List Tok→PR γ):andThen (andThen p k) K=andThen p fun a r=>andThen (k a r) K:=by
 unfold andThen
 cases p with
 | none=>rfl
 | some y =>
   cases y with
   | error e=>rfl
   | ok q=>rfl
theorem params_step {γ:Type} (f:Nat) (first:Bool) (l:List (List UInt8×Int)) (ts:List Tok) (K:List (List UInt8×Int)→List Tok→PR γ) :
 andThen (paramsF (f+1) first l ts) K=if seeB [41] ts then K l ts.tail else andThen (if first then okP () ts else must [44] ts) fun _ r=>andThen (nameP r) fun n r2=>andThen (must [58] r2) fun _ r3 =>
  if seeB kArr r3 then andThen (paramsF f false (l++[(n,2)]) r3.tail) K else andThen (must kInt r3) fun _ r4=>andThen (paramsF f false (l++[(n,1)]) r4) K:=by
 simp only [paramsF]
 split
 · rfl
 · simp only [andThen_assoc]
   congr 1
   funext _ r
   congr 1
   funext n r2
   congr 1
   funext _ r3
   split
   · rfl
   · simp only [andThen_assoc]
def pcells:List (List UInt8×Int)→List Value
 | []=>[]
 | (n,t)::r=>str n::.int .i64 t::pcells r
theorem pcells_append:(l:List (List UInt8×Int))→(n:List UInt8)→(t:Int)→pcells (l++[(n,t)])=pcells l++[str n,.int .i64 t]
 | [],n,t=>rfl
 | (m,u)::r,n,t=>by simp only [List.cons_append,pcells,pcells_append r n t]
def FnAt (W:World) (S:Nat→Prop) (x:Fn) (cs:List Value):Prop :=
 ∃ p q vq,cs=[str x.name,.int .i64 x.at_,p,q]∧RowAt W S 91 2 p x.params.length (pcells x.params)∧RowAt W S 143 7 q x.body.length vq∧StsAt W S x.body vq
theorem FnAt.modsTo {W W':World} {S T:Nat→Prop} {x:Fn} {cs:List Value} (h:FnAt W S x cs) (hm:Mods S W W') (hT:∀ k,k<W.heap.size→T k→S k):FnAt W' T x cs:=by
 obtain ⟨p,q,vq,h1,h2,h3,h4⟩:=h
 exact ⟨p,q,vq,h1,h2.mods hm hT,h3.mods hm hT,StsAt.modsTo hm hT _ _ h4⟩
def FnsAt (W:World) (S:Nat→Prop):List Fn→List Value→Prop
 | [],vs=>vs=[]
 | x::l,vs=>∃ cs r,vs=cs++r∧FnAt W S x cs∧FnsAt W S l r
theorem FnsAt.modsTo {W W':World} {S T:Nat→Prop} (hm:Mods S W W') (hT:∀ k,k<W.heap.size→T k→S k):(l:List Fn)→(vs:List Value)→FnsAt W S l vs→FnsAt W' T l vs
 | [],vs,h=>h
 | x::l,vs,h=>by
   obtain ⟨cs,r,h1,h2,h3⟩:=h
   exact ⟨cs,r,h1,h2.modsTo hm hT,FnsAt.modsTo hm hT l r h3⟩
theorem FnsAt.append {W:World} {S:Nat→Prop} {x:Fn} {cs:List Value}:{l:List Fn}→{vs:List Value}→FnsAt W S l vs→FnAt W S x cs→FnsAt W S (l++[x]) (vs++cs)
 | [],vs,h,hs=>by
   simp only [FnsAt] at h
   subst h
   exact ⟨cs,[],by simp,hs,rfl⟩
 | a::l,vs,h,hs=>by
   obtain ⟨ds,r,rfl,h2,h3⟩:=h
   exact ⟨ds,r++cs,by simp,h2,FnsAt.append h3 hs⟩
theorem FnAt.shape {W:World} {S:Nat→Prop} {x:Fn} {cs:List Value} (h:FnAt W S x cs):∃ oa on oc ob om od,cs=[.string ⟨x.name.toArray⟩,.int .i64 x.at_,.slice oa on oc,.slice ob om od]:=by
 obtain ⟨p,q,vq,rfl,h2,h3,_⟩:=h
 obtain ⟨_,_,_,rfl⟩:=h2.form
 obtain ⟨_,_,_,rfl⟩:=h3.form
 exact ⟨_,_,_,_,_,_,rfl⟩
def FunctionC (f:Nat):Prop:=∀ (b:Nat) (S:Nat→Prop) (ts:List Tok) (W:World) (x:Except (Int×Int) (Fn×List Tok)),Rd W b S ts→functionF f ts=some x →
 Calls Tryz.prog 31 #[.pointer (some ⟨b,0,none⟩)] W (Got (·=b) W b (fun s v w=>∃ cs,v=.agg cs.toArray∧FnAt w S s cs) (some x))
def zeros4:List Value:=[.string ⟨#[]⟩,.int .i64 0,.slice none 0 0,.slice none 0 0]
structure Fun (W w:World) (b:Nat) (S:Nat→Prop) (ts:List Tok) (cs:List Value):Prop where
 rd:Rd w b (Three S W.heap.size) ts
 own:Blk w (W.heap.size+1) cs 84
 res:Blk w W.heap.size zeros4 84
 mods:Mods (·=b) W w
 lt:b<W.heap.size
theorem Fun.start {W:World} {b:Nat} {S:Nat→Prop} {ts:List Tok} (h:Rd W b S ts) (ta:Int) :
 Fun W ((W.alloc (.cells #[.string ⟨#[]⟩,.int .i64 0,.slice none 0 0,.slice none 0 0] 84)).alloc (.cells #[.string ⟨#[]⟩,.int .i64 ta,.slice none 0 0,.slice none 0 0] 84)) b S ts [.string ⟨#[]⟩,.int .i64 ta,.slice none 0 0,.slice none 0 0]:=by
 have hR:=h.quiet (((Mods.refl None W).alloc (.cells #[.string ⟨#[]⟩,.int .i64 0,.slice none 0 0,.slice none 0 0] 84)).alloc (.cells #[.string ⟨#[]⟩,.int .i64 ta,.slice none 0 0,.slice none 0 0] 84))
 have h1:=Blk.new W #[.string ⟨#[]⟩,.int .i64 0,.slice none 0 0,.slice none 0 0] 84
 have h2:=Blk.new (W.alloc (.cells #[.string ⟨#[]⟩,.int .i64 0,.slice none 0 0,.slice none 0 0] 84)) #[.string ⟨#[]⟩,.int .i64 ta,.slice none 0 0,.slice none 0 0] 84
 rw [show (W.alloc (.cells #[.string ⟨#[]⟩,.int .i64 0,.slice none 0 0,.slice none 0 0] 84)).heap.size=W.heap.size+1 by simp] at h2
 refine ⟨⟨hR.par,hR.lev,hR.rng,Or.inl hR.has,?_⟩,h2,h1.alloc _,((Mods.refl _ _).alloc _).alloc _,h.old b h.has⟩
 have:=h2.lt
 rintro k (hk|rfl|rfl)
 · have:=h.old k hk
   omega
 · omega
 · omega
theorem Fun.next {W w w':World} {b:Nat} {S:Nat→Prop} {ts r:List Tok} {cs:List Value} (h:Fun W w b S ts cs) (hr:Rd w' b (Three S W.heap.size) r) (hm:Mods (·=b) w w'):Fun W w' b S r cs :=
 ⟨hr,h.own.mods hm (by have:=h.lt;omega),h.res.mods hm (by have:=h.lt;omega),h.mods.trans hm,h.lt⟩
theorem Fun.quiet {W w w':World} {b:Nat} {S:Nat→Prop} {ts:List Tok} {cs:List Value} (h:Fun W w b S ts cs) (hm:Mods None w w'):Fun W w' b S ts cs :=
 h.next (h.rd.quiet hm) (hm.mono fun _ _ f=>f.elim)
theorem Fun.far {W w w':World} {b:Nat} {S T:Nat→Prop} {ts:List Tok} {cs:List Value} (h:Fun W w b S ts cs) (hm:Mods T w w') (hT:∀ k,T k→W.heap.size+1<k):Fun W w' b S ts cs :=
 have hl:=h.lt
 ⟨h.rd.far hm (fun k hk=>by have:=hT k hk;omega),h.own.mods hm (fun hk=>by have:=hT _ hk;omega),h.res.mods hm (fun hk=>by have:=hT _ hk;omega),h.mods.trans' hm (fun k hk hw=>by have:=hT k hk;omega),h.lt⟩
theorem Fun.putMods {W w:World} {b:Nat} {S:Nat→Prop} {ts:List Tok} {cs:List Value} (h:Fun W w b S ts cs) (i:Nat) (v:Value):Mods (Three S W.heap.size) w (w.setCell ⟨W.heap.size+1,i,none⟩ v) :=
 (mods_put w (W.heap.size+1) i v).mono fun k _ hk=>Or.inr (Or.inr hk)
theorem Fun.put {W w:World} {b:Nat} {S:Nat→Prop} {ts:List Tok} {cs:List Value} (h:Fun W w b S ts cs) (i:Nat) (v:Value) {ds:List Value} (he:cs.set i v=ds):Fun W (w.setCell ⟨W.heap.size+1,i,none⟩ v) b S ts ds :=
 have hl:=h.lt
 ⟨h.rd.far (mods_put w (W.heap.size+1) i v) (by rintro k rfl;omega),blk_put h.own i v he,h.res.mods (mods_put w (W.heap.size+1) i v) (by omega),h.mods.trans' (mods_put w (W.heap.size+1) i v) (by rintro k rfl hk;omega),h.lt⟩
theorem Fun.ret {W w:World} {b:Nat} {S:Nat→Prop} {ts:List Tok} {z0 z1 z2 z3:Value} (h:Fun W w b S ts [z0,z1,z2,z3]) {wf:World}
 (hw:wf=(((w.setCell ⟨W.heap.size,0,none⟩ z0).setCell ⟨W.heap.size,1,none⟩ z1).setCell ⟨W.heap.size,2,none⟩ z2).setCell ⟨W.heap.size,3,none⟩ z3) :
 Blk wf W.heap.size [z0,z1,z2,z3] 84∧Mods (·=b) W wf∧Par wf b ts∧Mods (Three S W.heap.size) w wf:=by
 have hm:Mods (·=W.heap.size) w wf:=by
  rw [hw]
  exact (((mods_put w _ 0 z0).trans (mods_put _ _ 1 z1)).trans (mods_put _ _ 2 z2)).trans (mods_put _ _ 3 z3)
 refine ⟨?_,h.mods.trans' hm (by rintro k rfl hk;omega),h.rd.par.far hm (by rintro k rfl;exact h.lt),hm.mono fun k _ hk=>Or.inr (Or.inl hk)⟩
 rw [hw]
 exact blk_put (blk_put (blk_put (blk_put h.res 0 z0 rfl) 1 z1 rfl) 2 z2 rfl) 3 z3 rfl
theorem Grows.keep {W W':World} {B:Nat} {S T:Nat→Prop} {e:TypeId} {size n:Nat} {v:Value} {vs:List Value} (h:Grows W B S e size v n vs) (hm:Mods T W W') (hn:∀ k,v.ownBlock=some k→¬ T k):Grows W' B S e size v n vs :=
 ⟨hm.ownsRow h.row hn,Nat.le_trans h.base hm.size,h.below⟩
theorem two_new (W:World) (z0 z1:Value) (e:TypeId):∀ j u,[z0,z1][j]?=some u→(W.alloc (.cells #[z0,z1] e)).cell? ((⟨W.heap.size,0,none⟩:Addr).add j)=some u:=by
 intro j u hj
 have h:=(Blk.new W #[z0,z1] e).cell (i:=j) (v:=u) hj
 cases j with
 | zero=>exact h
 | succ j=>simpa [Addr.add] using h
theorem two_one (s:ByteArray) (a:Int):∀ u∈[Value.string s,.int .i64 a],u.oneCell'=true:=by
 intro u hu
 simp only [List.mem_cons,List.not_mem_nil,or_false] at hu
 rcases hu with rfl|rfl <;> rfl
theorem param_info:(Tryz.prog.info? 91).map (fun i=>(i.zero,i.size,i.bytes))=some (some (.agg #[.string ⟨#[]⟩,.int .i64 0]),2,24):=by kernel_rfl
theorem func_info:(Tryz.prog.info? 84).map (fun i=>(i.zero,i.size,i.bytes))=some (some (.agg #[.string ⟨#[]⟩,.int .i64 0,.slice none 0 0,.slice none 0 0]),4,72):=by kernel_rfl
theorem ExsAt.at_ {W:World} {S:Nat→Prop}:{l:List Ex}→{vs:List Value}→ExsAt W S l vs→(i:Nat)→(e:Ex)→l[i]?=some e→∃ v,vs[i]?=some v∧ExAt W S e v
 | [],vs,h,i,e,he=>by simp at he
 | a::r,vs,h,i,e,he=>by
   simp only [ExsAt] at h
   obtain ⟨x,r2,rfl,h1,h2⟩:=h
   cases i with
   | zero=>simp only [List.getElem?_cons_zero,Option.some.injEq] at he;subst he;exact ⟨x,rfl,h1⟩
   | succ i=>exact ExsAt.at_ h2 i e (by simpa using he)
theorem lex_form {W:World} {B:Nat} {e:TypeId} {size n:Nat} {v:Value} {vs:List Value} (h:W.ownsRow B e size v n vs):∃ oa oc,v=.slice oa n oc:=by
 rcases h.2 with ⟨hv,h0⟩|⟨g,cap,cur,hv,_⟩
 · exact ⟨_,_,by rw [hv,h0]⟩
 · exact ⟨_,_,hv⟩
end Go.Proofs.YtnicpmoanjddbaaGreatDoor.TreeP
