/- Letters and digits. No conditions. What stands at a text's beginning. Conditions: that the marks lie as the program lays them. A mark at a text's beginning. Printed by mkmarks.py. Conditions: that the marks lie as the program lays them. The tokens of a text. Conditions: that the marks lie as the program lays them. Laws of append as one step of a region that draws its order. No program in sight. No conditions. -/
import Derived.Test.YtnicpmoanjddbaaGreatDoorRows
import Derived.Test.YtnicpmoanjddbaaGreatDoorMs01
import Derived.WalkKit
import Derived.ProofKit
import Derived.WalkSpells
import Derived.WalkLawsBesides
import Derived.Lib.Hide
import Derived.RegionTactic
import Derived.Outline
import Derived.IntWalk
import Derived.Test.YtnicpmoanjddbaaGreatDoorMs02
import Derived.Test.YtnicpmoanjddbaaGreatDoorShelf
import Derived.Laws.PanicsMore
import Derived.Deep.MidRow
import Derived.Maps.AppendAt
import Derived.Laws.AppendOwnNone
import Derived.Deep.RegionLaw
namespace Go.Proofs.YtnicpmoanjddbaaGreatDoor.TreeP
open Go.RowKit Go.Proofs.YtnicpmoanjddbaaGreatDoor.Wo
set_option linter.unusedVariables false
set_option linter.unusedSimpArgs false
set_option maxRecDepth 100000 in
theorem letter_any (c:UInt8) (W:World) :
 Calls Tryz.prog 89 #[.int .u8 c.toNat] W fun e W'=>e=.returned (.bool (letterB c))∧W=W':=by
 obtain ⟨x,hx⟩:∃ x:Int,x=c.toNat:=⟨_,rfl⟩
 have h0:0≤x∧x<256:=by rw [hx];have:=c.toNat_lt;omega
 have HL:letterB c=((decide (97≤x) && decide (x≤122)) || x==95):=by
  unfold letterB
  rw [hx]
  congr 1
  · congr 1 <;> (apply decide_eq_decide.2;omega)
  · rw [Bool.eq_iff_iff];simp;omega
 rw [HL,← hx]
 clear HL hx
 by_cases h1:97≤x <;> by_cases h2:x≤122 <;> by_cases h3:x=95
 all_goals first
  | omega
  | skip
 all_goals
  go_enter Tryz.func89,Tryz.ntmps89
  go_wp2
  go_ret
  refine ⟨?_,rfl⟩
  simp [h1,h2,h3]
set_option maxRecDepth 100000 in
theorem digit_any (c:UInt8) (W:World) :
 Calls Tryz.prog 90 #[.int .u8 c.toNat] W fun e W'=>e=.returned (.bool (digitB c))∧W=W':=by
 obtain ⟨x,hx⟩:∃ x:Int,x=c.toNat:=⟨_,rfl⟩
 have h0:0≤x∧x<256:=by rw [hx];have:=c.toNat_lt;omega
 have HL:digitB c=(decide (48≤x) && decide (x≤57)):=by
  unfold digitB
  rw [hx]
  congr 1 <;> (apply decide_eq_decide.2;omega)
 rw [HL,← hx]
 clear HL hx
 by_cases h1:48≤x <;> by_cases h2:x≤57
 all_goals
  go_enter Tryz.func90,Tryz.ntmps90
  go_wp2
  go_ret
  refine ⟨?_,rfl⟩
  simp [h1,h2]
theorem strT:Tryz.prog.underlying 9=some .string:=by kernel_rfl
theorem str_at {l:List UInt8} {n:Nat} {c:UInt8} (h:l[n]?=some c) (W:World):Sem.run Tryz.prog (Instr.index 9 (.string ⟨l.toArray⟩) (.int .i64 (n:Int))) W=.ok (.int .u8 c.toNat) W:=by
 have hn:n<l.length:=(List.getElem?_eq_some_iff.1 h).1
 have hc:l[n]=c:=(List.getElem?_eq_some_iff.1 h).2
 have h2:(0:Int)≤(n:Int)∧(n:Int)<((⟨l.toArray⟩:ByteArray).size:Int):=by
  simp only [ByteArray.size,List.size_toArray]
  omega
 have:=run_index_string (P:=Tryz.prog) W 9 ⟨l.toArray⟩ .i64 (n:Int) strT
 rw [dif_pos h2] at this
 refine this.trans ?_
 have e:(⟨l.toArray⟩:ByteArray)[(n:Int).toNat]'(by simpa [ByteArray.size] using hn)=c:=by
  rw [← hc];rfl
 rw [e]
theorem str_at0 {c:UInt8} {r:List UInt8} (W:World):Sem.run Tryz.prog (Instr.index 9 (.string ⟨(c::r).toArray⟩) (.int .i64 0)) W=.ok (.int .u8 c.toNat) W:=str_at (l:=c::r) (n:=0) rfl W
def Marks (W:World):Prop:=∀ (i:Nat) (m:List UInt8),markList[i]?=some m→W.cell? ⟨3,i,none⟩=some (str m)
def wordB (x:UInt8):Bool:=letterB x || digitB x
theorem takeWhile_le (p:UInt8→Bool):(l:List UInt8)→(l.takeWhile p).length≤l.length
 | []=>Nat.le_refl _
 | c::r=>by
   simp only [List.takeWhile_cons]
   split
   · simp only [List.length_cons];have:=takeWhile_le p r;omega
   · simp
theorem run_at (p:UInt8→Bool):(l:List UInt8)→(n:Nat)→n≤(l.takeWhile p).length→(n<(l.takeWhile p).length→∃ c,l[n]?=some c∧p c=true)∧(n=(l.takeWhile p).length→n<l.length→∃ c,l[n]?=some c∧p c=false)
 | [],n,h=>by simp
 | c::r,n,h=>by
   simp only [List.takeWhile_cons] at h ⊢
   cases hp:p c with
   | false =>
     rw [hp] at h
     simp only [Bool.false_eq_true,if_false,List.length_nil,Nat.le_zero] at h ⊢
     subst h
     exact ⟨fun h=>absurd h (Nat.lt_irrefl _),fun _ _=>⟨c,rfl,hp⟩⟩
   | true =>
     rw [hp] at h
     simp only [if_true,List.length_cons] at h ⊢
     cases n with
     | zero=>exact ⟨fun _=>⟨c,rfl,hp⟩,fun h=>by omega⟩
     | succ n =>
       have ih:=run_at p r n (by omega)
       exact ⟨fun h=>ih.1 (by omega),fun h1 h2=>ih.2 (by omega) (by omega)⟩
set_option maxRecDepth 100000 in
set_option maxHeartbeats 1600000 in
theorem next_word (c:UInt8) (r:List UInt8) (W:World) (hlen:(c::r).length≤10000000) (h:letterB c=true) :
 Calls Tryz.prog 59 #[str (c::r)] W fun e W'=>e=.returned (.tuple #[.int .i64 1,.int .i64 (((c::r).takeWhile wordB).length:Nat)])∧W=W':=by
 have HL:=hiD (fun (d:UInt8) (W1:World)=>letter_any d W1)
 have HD:=hiD (fun (d:UInt8) (W1:World)=>digit_any d W1)
 have h0:=str_at0 (c:=c) (r:=r) W
 have HC:=hiD h
 obtain ⟨l,hl⟩:∃ l,l=c::r:=⟨_,rfl⟩
 obtain ⟨k,hk⟩:∃ k,k=(l.takeWhile wordB).length:=⟨_,rfl⟩
 have hkl:k≤l.length:=by rw [hk];exact takeWhile_le _ _
 have HA:=hiD (fun n=>run_at wordB l n)
 rw [← hk] at HA
 rw [← hl] at h0 hlen ⊢
 rw [← hk]
 unfold str
 clear h hl hk
 go_enter Tryz.func59,Tryz.ntmps59
 go_wp2_with fail
 go_at_call 89
 refine (HL.out c W).mono ?_
 rintro e w ⟨rfl,rfl⟩
 rw [HC.out]
 go_wp2_with fail
 go_loopw [3] (fun v wr=>∃ n:Nat,n≤k∧v=.int .i64 n∧Hid (W=wr)) (fun v _=>(k-intOf v).toNat)
 case atStart=>exact ⟨0,by omega,rfl,hiD (by first|trivial|rfl)⟩
 case round =>
  obtain ⟨n,hn,rfl,hw⟩:=hrel
  obtain rfl:=hw.out
  clear hw
  by_cases hlt:n<k
  · obtain ⟨d,hd1,hd2⟩:=(HA.out n hn).1 hlt
    have hnl:(n:Int)<(l.length:Int):=by omega
    have hix:=str_at hd1 W
    clear hd1
    cases hL:letterB d
    · have hD:digitB d=true:=by simpa [wordB,hL] using hd2
      clear hd2
      have HLd:=hiD hL
      have HDd:=hiD hD
      clear hL hD
      go_wp2_with (first|(go_at_call 89;refine (HL.out d W).mono ?_;rintro e w ⟨rfl,rfl⟩;rw [HLd.out])|(go_at_call 90;refine (HD.out d W).mono ?_;rintro e w ⟨rfl,rfl⟩;rw [HDd.out]))
      exact ⟨⟨n+1,by omega,by go_num,hiD (by first|trivial|rfl)⟩,by simp [intOf];omega⟩
    · have HLd:=hiD hL
      clear hL hd2
      go_wp2_with (go_at_call 89;refine (HL.out d W).mono ?_;rintro e w ⟨rfl,rfl⟩;rw [HLd.out])
      exact ⟨⟨n+1,by omega,by go_num,hiD (by first|trivial|rfl)⟩,by simp [intOf];omega⟩
  · obtain rfl:n=k:=by omega
    by_cases hnl:n<l.length
    · obtain ⟨d,hd1,hd2⟩:=(HA.out n hn).2 rfl hnl
      have hnl:(n:Int)<(l.length:Int):=by omega
      have hix:=str_at hd1 W
      have hLD:letterB d=false∧digitB d=false:=by simpa [wordB] using hd2
      have HLd:=hiD hLD.1
      have HDd:=hiD hLD.2
      clear hd1 hd2 hLD
      go_wp2_with (first|(go_at_call 89;refine (HL.out d W).mono ?_;rintro e w ⟨rfl,rfl⟩;rw [HLd.out])|(go_at_call 90;refine (HD.out d W).mono ?_;rintro e w ⟨rfl,rfl⟩;rw [HDd.out]))
      go_ret2
      exact ⟨rfl,rfl⟩
    · have hnl:¬ (n:Int)<(l.length:Int):=by omega
      go_wp2
      go_ret2
      exact ⟨rfl,rfl⟩
set_option maxRecDepth 100000 in
set_option maxHeartbeats 1600000 in
theorem next_num (c:UInt8) (r:List UInt8) (W:World) (hlen:(c::r).length≤10000000) (h1:letterB c=false) (h:digitB c=true) :
 Calls Tryz.prog 59 #[str (c::r)] W fun e W'=>e=.returned (.tuple #[.int .i64 2,.int .i64 (((c::r).takeWhile digitB).length:Nat)])∧W=W':=by
 have HL:=hiD (fun (d:UInt8) (W1:World)=>letter_any d W1)
 have HD:=hiD (fun (d:UInt8) (W1:World)=>digit_any d W1)
 have h0:=str_at0 (c:=c) (r:=r) W
 have HC:=hiD h
 have HC1:=hiD h1
 obtain ⟨l,hl⟩:∃ l,l=c::r:=⟨_,rfl⟩
 obtain ⟨k,hk⟩:∃ k,k=(l.takeWhile digitB).length:=⟨_,rfl⟩
 have hkl:k≤l.length:=by rw [hk];exact takeWhile_le _ _
 have HA:=hiD (fun n=>run_at digitB l n)
 rw [← hk] at HA
 rw [← hl] at h0 hlen ⊢
 rw [← hk]
 unfold str
 clear h h1 hl hk
 go_enter Tryz.func59,Tryz.ntmps59
 go_wp2_with (first|(go_at_call 89;refine (HL.out c W).mono ?_;rintro e w ⟨rfl,rfl⟩;rw [HC1.out])|(go_at_call 90;refine (HD.out c W).mono ?_;rintro e w ⟨rfl,rfl⟩;rw [HC.out]))
 go_loopw [3] (fun v wr=>∃ n:Nat,n≤k∧v=.int .i64 n∧Hid (W=wr)) (fun v _=>(k-intOf v).toNat)
 case atStart=>exact ⟨0,by omega,rfl,hiD (by first|trivial|rfl)⟩
 case round =>
  obtain ⟨n,hn,rfl,hw⟩:=hrel
  obtain rfl:=hw.out
  clear hw
  by_cases hlt:n<k
  · obtain ⟨d,hd1,hd2⟩:=(HA.out n hn).1 hlt
    have hnl:(n:Int)<(l.length:Int):=by omega
    have hix:=str_at hd1 W
    have HDd:=hiD hd2
    clear hd1 hd2
    go_wp2_with (go_at_call 90;refine (HD.out d W).mono ?_;rintro e w ⟨rfl,rfl⟩;rw [HDd.out])
    exact ⟨⟨n+1,by omega,by go_num,hiD (by first|trivial|rfl)⟩,by simp [intOf];omega⟩
  · obtain rfl:n=k:=by omega
    by_cases hnl:n<l.length
    · obtain ⟨d,hd1,hd2⟩:=(HA.out n hn).2 rfl hnl
      have hnl:(n:Int)<(l.length:Int):=by omega
      have hix:=str_at hd1 W
      have HDd:=hiD hd2
      clear hd1 hd2
      go_wp2_with (go_at_call 90;refine (HD.out d W).mono ?_;rintro e w ⟨rfl,rfl⟩;rw [HDd.out])
      go_ret2
      exact ⟨rfl,rfl⟩
    · have hnl:¬ (n:Int)<(l.length:Int):=by omega
      go_wp2
      go_ret2
      exact ⟨rfl,rfl⟩
theorem und24:Tryz.prog.underlying 190=some (.array 24 9):=by kernel_rfl
set_option maxRecDepth 10000 in
theorem marks_idx {i:Nat} {m:List UInt8} (h:markList[i]?=some m) (W:World):Sem.run Tryz.prog (Instr.index 190 (.agg #[.string ⟨#[38,38]⟩,.string ⟨#[124,124]⟩,.string ⟨#[61,61]⟩,.string ⟨#[33,61]⟩,.string ⟨#[60,61]⟩,.string ⟨#[62,61]⟩,.string ⟨#[60]⟩,.string ⟨#[62]⟩,.string ⟨#[61]⟩,.string ⟨#[43]⟩,.string ⟨#[45]⟩,.string ⟨#[42]⟩,.string ⟨#[47]⟩,.string ⟨#[37]⟩,.string ⟨#[33]⟩,.string ⟨#[40]⟩,.string ⟨#[41]⟩,.string ⟨#[123]⟩,.string ⟨#[125]⟩,.string ⟨#[91]⟩,.string ⟨#[93]⟩,.string ⟨#[44]⟩,.string ⟨#[59]⟩,.string ⟨#[58]⟩]) (.int .i64 (i:Int))) W=.ok (.string ⟨m.toArray⟩) W:=by
 have hi:i<24:=(List.getElem?_eq_some_iff.1 h).1
 obtain rfl|rfl|rfl|rfl|rfl|rfl|rfl|rfl|rfl|rfl|rfl|rfl|rfl|rfl|rfl|rfl|rfl|rfl|rfl|rfl|rfl|rfl|rfl|rfl:i=0∨i=1∨i=2∨i=3∨i=4∨i=5∨i=6∨i=7∨i=8∨i=9∨i=10∨i=11∨i=12∨i=13∨i=14∨i=15∨i=16∨i=17∨i=18∨i=19∨i=20∨i=21∨i=22∨i=23:=by omega
 all_goals
  cases h
  simp [Instr.index,run_underlying und24,asIntOf,go_sem]
theorem marks_range (W:World) (h:Marks W):W.rangeAt 3 0 (markList.map str):=by
 intro j v hj
 rw [List.getElem?_map,Option.map_eq_some_iff] at hj
 obtain ⟨m,hm,rfl⟩:=hj
 rw [Nat.zero_add]
 exact h j m hm
theorem marks_size:(Tryz.prog.info? 190).map (·.size)=some (markList.map str).length:=by kernel_rfl
def markAt (l:List UInt8):Nat:=((markList.find? (fun m=>m.isPrefixOf l)).map List.length).getD 0
set_option maxRecDepth 100000 in
set_option maxHeartbeats 1600000 in
theorem next_mark (c:UInt8) (r:List UInt8) (W:World) (hM:Marks W) (hlen:(c::r).length≤10000000) (h1:letterB c=false) (h:digitB c=false) :
 Calls Tryz.prog 59 #[str (c::r)] W fun e W'=>e=.returned (.tuple #[.int .i64 3,.int .i64 (markAt (c::r):Nat)])∧W=W':=by
 have HL:=hiD (fun (d:UInt8) (W1:World)=>letter_any d W1)
 have HD:=hiD (fun (d:UInt8) (W1:World)=>digit_any d W1)
 have h0:=str_at0 (c:=c) (r:=r) W
 have HC:=hiD h
 have HC1:=hiD h1
 obtain ⟨l,hl⟩:∃ l,l=c::r:=⟨_,rfl⟩
 have HP:=hiD (fun (m:List UInt8) (w:World)=>Tryz.strings_HasPrefix ⟨l.toArray⟩ ⟨m.toArray⟩ w)
 rw [← hl] at h0 hlen ⊢
 unfold str
 clear h h1 hl
 have HRG:=hiD (marks_range W hM)
 have HI:=hiD (fun (i:Nat) (m:List UInt8) (h:markList[i]?=some m)=>marks_idx h W)
 obtain ⟨ag,hag⟩:∃ ag,ag=Value.agg (markList.map str).toArray:=⟨_,rfl⟩
 have hcast:Value.agg (markList.map str).toArray=(.agg #[.string ⟨#[38,38]⟩,.string ⟨#[124,124]⟩,.string ⟨#[61,61]⟩,.string ⟨#[33,61]⟩,.string ⟨#[60,61]⟩,.string ⟨#[62,61]⟩,.string ⟨#[60]⟩,.string ⟨#[62]⟩,.string ⟨#[61]⟩,.string ⟨#[43]⟩,.string ⟨#[45]⟩,.string ⟨#[42]⟩,.string ⟨#[47]⟩,.string ⟨#[37]⟩,.string ⟨#[33]⟩,.string ⟨#[40]⟩,.string ⟨#[41]⟩,.string ⟨#[123]⟩,.string ⟨#[125]⟩,.string ⟨#[91]⟩,.string ⟨#[93]⟩,.string ⟨#[44]⟩,.string ⟨#[59]⟩,.string ⟨#[58]⟩]):=rfl
 rw [← hcast,← hag] at HI
 have HAG:=hiD hag
 clear hag hcast
 go_enter Tryz.func59,Tryz.ntmps59
 go_wp2_with (first|(go_at_call 89;refine (HL.out c W).mono ?_;rintro e w ⟨rfl,rfl⟩;rw [HC1.out])|(go_at_call 90;refine (HD.out c W).mono ?_;rintro e w ⟨rfl,rfl⟩;rw [HC.out])|(refine wpList_load_mid rfl 190 (.global 3) rfl 3 0 rfl (markList.map str) _ HRG.out und24 rfl marks_size ?_;rw [← HAG.out]))
 go_loopw [47] (fun v wr=>∃ i:Nat,i≤24∧v=.int .i64 i∧Hid ((markList.drop i).find? (fun m=>m.isPrefixOf l)=markList.find? (fun m=>m.isPrefixOf l))∧Hid (W=wr)) (fun v _=>(24-intOf v).toNat)
 case atStart=>exact ⟨0,by omega,rfl,hiD (by first|trivial|rfl),hiD (by first|trivial|rfl)⟩
 case round =>
  obtain ⟨i,hi,rfl,heq,hw⟩:=hrel
  obtain rfl:=hw.out
  clear hw
  by_cases hlt:i<24
  · obtain ⟨m,hm⟩:∃ m,markList[i]?=some m:=⟨markList[i],List.getElem?_eq_getElem (by exact hlt)⟩
    have hd:markList.drop i=m::markList.drop (i+1):=by
        have:=List.drop_eq_getElem_cons (l:=markList) (i:=i) (by exact hlt)
        rw [this]
        congr 1
        exact (List.getElem?_eq_some_iff.1 hm).2
    have hix:=HI.out i m hm
    cases hs:m.isPrefixOf l
    · have hnext:Hid ((markList.drop (i+1)).find? (fun m=>m.isPrefixOf l)=markList.find? (fun m=>m.isPrefixOf l)):=hiD (by
       rw [← heq.out,hd,List.find?_cons,hs])
      have HS:Hid (Lib.hasPrefix l m=false):=hiD hs
      clear hm hd hs heq
      go_wp2_with (go_at_call 91;refine (HP.out m W).mono ?_;rintro e w' ⟨rfl,rfl⟩;simp only [HS.out])
      exact ⟨⟨i+1,by omega,by go_num,hnext,hiD (by first|trivial|rfl)⟩,by simp [intOf];omega⟩
    · have hfin:Hid (markAt l=m.length):=hiD (by
       unfold markAt
       rw [← heq.out,hd,List.find?_cons,hs];rfl)
      have HS:Hid (Lib.hasPrefix l m=true):=hiD hs
      have hml:m.length≤2:=by
       have hmem:m∈markList:=List.mem_of_getElem? hm
       simp only [markList,List.mem_cons,List.not_mem_nil,or_false] at hmem
       rcases hmem with rfl|rfl|rfl|rfl|rfl|rfl|rfl|rfl|rfl|rfl|rfl|rfl|rfl|rfl|rfl|rfl|rfl|rfl|rfl|rfl|rfl|rfl|rfl|rfl <;> decide
      clear hm hd hs heq
      go_wp2_with (go_at_call 91;refine (HP.out m W).mono ?_;rintro e w' ⟨rfl,rfl⟩;simp only [HS.out])
      go_ret2
      rw [hfin.out]
      exact ⟨rfl,rfl⟩
  · obtain rfl:i=24:=by omega
    have hfin:Hid (markAt l=0):=hiD (by
        unfold markAt
        rw [← heq.out];rfl)
    clear heq
    go_wp2
    go_ret2
    rw [hfin.out]
    exact ⟨rfl,rfl⟩
theorem next_any (c:UInt8) (r:List UInt8) (W:World) (hM:Marks W) (hlen:(c::r).length≤10000000) :
 Calls Tryz.prog 59 #[str (c::r)] W fun e W'=>e=.returned (.tuple #[.int .i64 (nextP (c::r)).1,.int .i64 ((nextP (c::r)).2:Nat)])∧W=W':=by
 cases h1:letterB c
 · cases h2:digitB c
   · have h:=next_mark c r W hM hlen h1 h2
     have e:nextP (c::r)=(3,markAt (c::r)):=by
        simp only [nextP,h1,h2,Bool.false_eq_true,if_false,markAt]
        cases markList.find? (fun m=>m.isPrefixOf (c::r)) <;> rfl
     rw [e]
     exact h
   · have h:=next_num c r W hlen h1 h2
     have e:nextP (c::r)=(2,((c::r).takeWhile digitB).length):=by
        simp only [nextP,h1,h2,Bool.false_eq_true,if_false,if_true]
     rw [e]
     exact h
 · have h:=next_word c r W hlen h1
   have e:nextP (c::r)=(1,((c::r).takeWhile wordB).length):=by
    simp only [nextP,h1,if_true]
    rfl
   rw [e]
   exact h
def tcells:List Tok→List Value
 | []=>[]
 | t::r=>.int .i64 t.kind::str t.text::.int .i64 t.at_::tcells r
theorem tcells_append:(l:List Tok)→(t:Tok)→tcells (l++[t])=tcells l++[.int .i64 t.kind,str t.text,.int .i64 t.at_]
 | [],t=>rfl
 | u::r,t=>by simp only [List.cons_append,tcells,tcells_append r t]
theorem tcells_at:(l:List Tok)→(i:Nat)→(t:Tok)→l[i]?=some t→(tcells l)[i*3]?=some (.int .i64 t.kind)∧(tcells l)[i*3+1]?=some (str t.text)∧(tcells l)[i*3+2]?=some (.int .i64 t.at_)
 | [],i,t,h=>by simp at h
 | u::r,0,t,h=>by
   simp only [List.getElem?_cons_zero,Option.some.injEq] at h
   subst h
   exact ⟨rfl,rfl,rfl⟩
 | u::r,i+1,t,h=>by
   have:=tcells_at r i t (by simpa using h)
   simp only [tcells]
   rw [show (i+1)*3=i*3+3 by omega]
   exact this
def lexTo (acc:List Tok):Except (Int×Int) (List Tok)→Except (Int×Int) (List Tok)
 | .ok t=>.ok (acc++t)
 | .error e=>.error e
def Made (ts:List Tok):Prop:=∀ t∈ts,t.text.length≤10000000∧(t.kind=2→t.text≠[]∧t.text.all digitB=true)
theorem Made.append {ts:List Tok} {t:Tok} (h:Made ts) (h1:t.text.length≤10000000∧(t.kind=2→t.text≠[]∧t.text.all digitB=true)):Made (ts++[t]):=by
 intro u hu
 rw [List.mem_append,List.mem_singleton] at hu
 rcases hu with hu|rfl
 · exact h u hu
 · exact h1
def Lexed (W:World):Except (Int×Int) (List Tok)→Ending→World→Prop
 | .error (n,a)=>fun e w=>∃ g,e=.returned (.tuple #[.slice none 0 0,.iface 134 (.pointer (some ⟨g,0,none⟩))])∧Blk w g [.int .i64 n,.int .i64 a] 136∧Mods None W w
 | .ok ts=>fun e w=>∃ g c,e=.returned (.tuple #[.slice (some ⟨g,0,none⟩) ts.length c,.nilIface])∧ts.length≤c∧c≤9223372036854775807∧ts.length≤1501∧g<w.heap.size∧ToksAt w g 0 ts∧Ends ts∧Made ts∧Mods None W w
def LexAt (s:List UInt8) (W:World) (x:Except (Int×Int) (List Tok)) (lv iv:Value) (wr:World):Prop :=
 ∃ (p:Nat) (acc:List Tok) (f:Nat) (y:Except (Int×Int) (List Tok)),iv=.int .i64 p∧p≤s.length∧lexF f (s.drop p) p acc.length=some y∧x=lexTo acc y∧wr.ownsRow W.heap.size 79 3 lv acc.length (tcells acc)∧Mods None W wr∧Made acc∧acc.length≤1500
theorem tok_info:(Tryz.prog.info? 79).map (fun i=>(i.zero,i.size,i.bytes))=some (some (.agg #[.int .i64 0,.string ⟨#[]⟩,.int .i64 0]),3,32):=by kernel_rfl
theorem three_new (W:World) (z0 z1 z2:Value) (e:TypeId):∀ j u,[z0,z1,z2][j]?=some u→(W.alloc (.cells #[z0,z1,z2] e)).cell? ((⟨W.heap.size,0,none⟩:Addr).add j)=some u:=by
 intro j u hj
 have h:=(Blk.new W #[z0,z1,z2] e).cell (i:=j) (v:=u) hj
 cases j with
 | zero=>exact h
 | succ j=>simpa [Addr.add] using h
theorem three_one (a b:Int) (s:ByteArray):∀ u∈[Value.int .i64 a,.string s,.int .i64 b],u.oneCell'=true:=by
 intro u hu
 simp only [List.mem_cons,List.not_mem_nil,or_false] at hu
 rcases hu with rfl|rfl|rfl <;> rfl
theorem nextP_le (l:List UInt8):(nextP l).2≤l.length:=by
 cases l with
 | nil=>exact Nat.le_refl _
 | cons c r =>
   simp only [nextP]
   split
   · exact takeWhile_le _ _
   · split
     · exact takeWhile_le _ _
     · cases hf:markList.find? (fun (m:List UInt8)=>m.isPrefixOf (c::r)) with
       | none=>exact Nat.zero_le _
       | some m =>
         have h1:m.isPrefixOf (c::r)=true:=List.find?_some (p:=fun (m:List UInt8)=>m.isPrefixOf (c::r)) hf
         rw [List.isPrefixOf_iff_prefix] at h1
         exact h1.length_le
theorem next_made (c:UInt8) (r:List UInt8):(nextP (c::r)).1=2→(c::r).take (nextP (c::r)).2≠[]∧((c::r).take (nextP (c::r)).2).all digitB=true:=by
 simp only [nextP]
 split
 · intro h;simp at h
 · split
   · rename_i hd
     intro _
     have e:(c::r).take ((c::r).takeWhile digitB).length=(c::r).takeWhile digitB:=by
        have:=List.takeWhile_append_dropWhile (p:=digitB) (l:=c::r)
        conv=>lhs;arg 2;rw [← this]
        exact List.take_left
     rw [e]
     refine ⟨?_,?_⟩
     · rw [List.takeWhile_cons,hd];simp
     · rw [List.all_eq_true];exact fun x hx=>List.all_eq_true.1 (List.all_takeWhile) x hx
   · split <;> (intro h;simp at h)
set_option maxRecDepth 100000 in
set_option maxHeartbeats 4000000 in
theorem tokens_any (s:List UInt8) (f:Nat) (x:Except (Int×Int) (List Tok)) (W:World) (hM:Marks W) (hlen:s.length≤10000000) (hx:lexF f s 0 0=some x) :
 Calls Tryz.prog 29 #[str s] W (Lexed W x):=by
 have HX:=hiD hx
 have HMK:=hiD (fun (w:World) (h:Mods None W w) (i:Nat) (m:List UInt8) (hm:markList[i]?=some m)=>h.cellOf (hM i m hm) (fun f=>f))
 obtain ⟨i0,hi,hz0,hz1,hz2⟩:=info_parts tok_info
 have HI:=hiD (⟨hi,hz0,hz1,hz2⟩:_∧_∧_∧_)
 clear hx hM hi hz0 hz1 hz2
 unfold str
 go_enter Tryz.func29,Tryz.ntmps29
 go_wp2_with fail
 go_loopw [4,5] (fun lv iv wr=>LexAt s W x lv iv wr) (fun _ iv _=>(s.length-intOf iv).toNat)
 case atStart=>exact ⟨0,[],f,x,rfl,Nat.zero_le _,HX.out,(by cases x <;> rfl),World.ownsRow_nil _ _ _ _,Mods.refl _ _,(fun _ h=>nomatch h),by simp⟩
 case round =>
  clear HX
  obtain ⟨p,acc,ff,y,rfl,hp,hy,rfl,hown,hm,hmade,hn⟩:=hrel
  have HO:=hiD hown
  have HM:=hiD hm
  have HD:=hiD hmade
  have HN:=hiD hn
  clear hown hm hmade hn
  cases ff with
  | zero=>simp [lexF] at hy
  | succ f1 =>
  by_cases hps:p<s.length
  · obtain ⟨c,hc⟩:∃ c,s[p]?=some c:=⟨s[p],List.getElem?_eq_getElem hps⟩
    have hix:=str_at hc wr
    have hdr:s.drop p=c::s.drop (p+1):=by
        have:=List.drop_eq_getElem_cons hps
        rw [this]
        congr 1
        exact (List.getElem?_eq_some_iff.1 hc).2
    have hpi:(p:Int)<(s.length:Int):=by omega
    rw [hdr] at hy
    simp only [lexF] at hy
    obtain ⟨xc,hxc⟩:∃ xc:Int,xc=c.toNat:=⟨_,rfl⟩
    rw [← hxc] at hix
    have hx0:0≤xc∧xc<256:=by rw [hxc];have:=c.toNat_lt;omega
    by_cases hb:blankB c=true
    · rw [if_pos hb] at hy
      have HY:=hiD hy
      have hb3:xc=32∨xc=9∨xc=10:=by
       simp only [blankB,Bool.or_eq_true,beq_iff_eq] at hb
       omega
      clear hy hb hdr hc hxc
      rcases hb3 with rfl|rfl|rfl
      all_goals
       go_wp2_with fail
       exact ⟨⟨p+1,acc,f1,y,by go_num,by omega,HY.out,rfl,HO.out,HM.out,HD.out,HN.out⟩,by simp [intOf];omega⟩
    · rw [if_neg hb] at hy
      have hnb:¬ xc=32∧¬ xc=9∧¬ xc=10:=by
       simp only [blankB,Bool.or_eq_true,beq_iff_eq] at hb
       omega
      obtain ⟨n32,n9,n10⟩:=hnb
      by_cases h35:xc=35
      · have h35':c.toNat=35:=by omega
        rw [if_pos (by simpa using h35')] at hy
        subst h35
        rw [← hdr] at hy
        have HY:=hiD hy
        obtain ⟨K,hK⟩:∃ K,K=((s.drop p).takeWhile fun x=>x.toNat != 10).length:=⟨_,rfl⟩
        have hKl:K≤s.length-p:=by
          have:=takeWhile_le (fun x=>x.toNat != 10) (s.drop p)
          rw [← hK] at this
          simpa using this
        have hK1:1≤K:=by
          rw [hK,hdr,List.takeWhile_cons,if_pos (by simp [h35'])]
          simp
        have HA:=hiD (fun n=>run_at (fun x=>x.toNat != 10) (s.drop p) n)
        rw [← hK] at HA HY
        have HDW:Hid ((s.drop p).dropWhile (fun x=>x.toNat != 10)=s.drop (p+K)):=hiD (by
          have e:=List.takeWhile_append_dropWhile (p:=fun (x:UInt8)=>x.toNat != 10) (l:=s.drop p)
          have e2:(s.drop p).drop K=(s.drop p).dropWhile (fun x=>x.toNat != 10):=by
            conv=>lhs;arg 2;rw [← e]
            rw [hK]
            exact List.drop_left
          rw [← e2,List.drop_drop])
        clear hy hb hdr hc hxc h35' hK
        go_wp2_with fail
        go_loopw [5] (fun iv wr2=>∃ k:Nat,k≤K∧iv=.int .i64 ((p+k:Nat):Int)∧Hid (wr=wr2)) (fun iv _=>(p+K-intOf iv).toNat)
        case atStart=>exact ⟨0,by omega,rfl,hiD (by first|trivial|rfl)⟩
        case round =>
          obtain ⟨k,hk,rfl,hw⟩:=hrel
          obtain rfl:=hw.out
          clear hw
          by_cases hlt:k<K
          · obtain ⟨d,hd1,hd2⟩:=(HA.out k hk).1 hlt
            have hpl:(p:Int)+(k:Int)<(s.length:Int):=by omega
            have hix2:=str_at (n:=p+k) (l:=s) (c:=d) (by rw [← hd1,List.getElem?_drop]) wr
            rw [Int.natCast_add] at hix2
            have hd10:¬ (d.toNat:Int)=10:=by simp at hd2;omega
            clear hd1 hd2 hix
            go_wp2_with fail
            exact ⟨⟨k+1,by omega,by go_num,hiD (by first|trivial|rfl)⟩,by simp [intOf];omega⟩
          · obtain rfl:k=K:=by omega
            by_cases hpl2:p+k<s.length
            · obtain ⟨d,hd1,hd2⟩:=(HA.out k hk).2 rfl (by simp;omega)
              have hpl:(p:Int)+(k:Int)<(s.length:Int):=by omega
              have hix2:=str_at (n:=p+k) (l:=s) (c:=d) (by rw [← hd1,List.getElem?_drop]) wr
              rw [Int.natCast_add] at hix2
              have hd10:(d.toNat:Int)=10:=by simp at hd2;omega
              rw [hd10] at hix2
              clear hd1 hd2 hix hd10
              go_wp2_with fail
              refine ⟨⟨p+k,acc,f1,y,by go_num,by omega,?_,rfl,HO.out,HM.out,HD.out,HN.out⟩,by simp [intOf];omega⟩
              rw [← HDW.out]
              exact HY.out
            · have hpl:¬ (p:Int)+(k:Int)<(s.length:Int):=by omega
              clear hix
              go_wp2_with fail
              refine ⟨⟨p+k,acc,f1,y,by go_num,by omega,?_,rfl,HO.out,HM.out,HD.out,HN.out⟩,by simp [intOf];omega⟩
              rw [← HDW.out]
              exact HY.out
      · have h35':¬ c.toNat=35:=by omega
        rw [if_neg (by simpa using h35')] at hy
        have HY:=hiD hy
        have HDR:=hiD hdr
        have hsl:(⟨s.toArray⟩:ByteArray).extract p s.length=⟨(c::s.drop (p+1)).toArray⟩:=by
          rw [ByteArray.extract_mk,hdr]
          congr 2
          apply List.take_of_length_le
          rw [← hdr]
          simp
        have HNX:=hiD (next_any c (s.drop (p+1)) wr (fun i m hm=>HMK.out wr HM.out i m hm) (by rw [← hdr];simp;omega))
        obtain ⟨kk,hkk⟩:∃ k,k=nextP (c::s.drop (p+1)):=⟨_,rfl⟩
        have hkn:kk.2≤s.length-p:=by rw [hkk];have:=nextP_le (c::s.drop (p+1));rw [← hdr] at this ⊢;simpa using this
        have HMD:=hiD (next_made c (s.drop (p+1)))
        rw [← hkk] at HNX HMD
        obtain ⟨kk,kn⟩:=kk
        simp only at HNX HMD hkn
        have hs2:(⟨s.toArray⟩:ByteArray).extract p (p+kn)=⟨((c::s.drop (p+1)).take kn).toArray⟩:=by
          rw [ByteArray.extract_mk,hdr]
          congr 3
          omega
        have hy2:(if kn=0 then some (.error (3,(p:Int))) else if acc.length=1500 then some (.error (4,(p:Int))) else match lexF f1 ((c::s.drop (p+1)).drop kn) (p+kn) (acc.length+1) with
          | some (.ok t)=>some (.ok (⟨kk,(c::s.drop (p+1)).take kn,p⟩::t))
          | x=>x)=some y:=by
          rw [← hkk] at hy
          exact hy
        have HY:=hiD hy2
        clear hy hy2 hb hdr hc hxc h35' hkk
        obtain ⟨oa,oc,rfl⟩:=lex_form HO.out
        go_wp2_with fail
        go_at_call 59
        refine HNX.out.mono ?_
        rintro e w1 ⟨rfl,rfl⟩
        by_cases h0:kn=0
        · subst h0
          obtain rfl:y=.error (3,(p:Int)):=(Option.some.inj HY.out).symm
          clear HY
          go_wp2
          go_ret2
          exact ⟨_,rfl,Blk.new _ _ _,HM.out.alloc _⟩
        have h0i:¬ (kn:Int)=0:=by omega
        by_cases h15:acc.length=1500
        · have hy3:=HY.out
          rw [if_neg h0,if_pos h15] at hy3
          obtain rfl:y=.error (4,(p:Int)):=(Option.some.inj hy3).symm
          have h15i:(acc.length:Int)=1500:=by omega
          clear HY hy3 h15 h0
          go_wp2
          go_ret2
          exact ⟨_,rfl,Blk.new _ _ _,HM.out.alloc _⟩
        have hy3:=HY.out
        rw [if_neg h0,if_neg h15] at hy3
        have HY:=hiD hy3
        have hon3:¬ (acc.length:Int)=1500:=by omega
        have HN15:=hiD h15
        have HK0:=hiD h0
        clear hy3 h0 h15
        go_wp2_with (at_builtin;refine wpList_append_own_at _ rfl _ _ 72 rfl W.heap.size 79 i0 _ 3 32 Tryz.underlying72 HI.out.1 HI.out.2.1 HI.out.2.2.1 HI.out.2.2.2 rfl (by decide) (.slice oa acc.length oc) acc.length (tcells acc) rfl (HO.out.alloc _) ⟨wr.heap.size,0,none⟩ 1 1 [.int .i64 kk,.string ⟨((c::s.drop (p+1)).take kn).toArray⟩,.int .i64 p] rfl rfl (three_new _ _ _ _ _) (three_one _ _ _) (by have:=HN.out;unfold maxLen;omega) (by have:=HN.out;omega) (by have:=HM.out.size;simp;omega) ?_;intro v' w5 hown hgrow hnil hloc;have HOW:=hiD hown;have HGR:Hid ((wr.alloc (.cells #[.int .i64 kk,.string ⟨((c::s.drop (p+1)).take kn).toArray⟩,.int .i64 p] 79)).grownBy w5 (Value.slice oa acc.length oc).ownBlock):=hiD hgrow;clear hown hgrow hnil hloc;refine Hid.out ?_)
        refine hiD ?_
        obtain ⟨qa,qc,rfl⟩:=lex_form HOW.out
        go_wp2_with fail
        have hdd:(c::s.drop (p+1)).drop kn=s.drop (p+kn):=by rw [← HDR.out,List.drop_drop]
        have hy4:=HY.out
        rw [hdd] at hy4
        have hpk:0<kn:=by have:=HK0.out;omega
        have htok:(⟨kk,(c::s.drop (p+1)).take kn,p⟩:Tok).text.length≤10000000∧(kk=2→(c::s.drop (p+1)).take kn≠[]∧((c::s.drop (p+1)).take kn).all digitB=true):=by
          refine ⟨?_,HMD.out⟩
          simp only [List.length_take]
          omega
        have hown2:w5.ownsRow W.heap.size 79 3 (.slice qa (acc.length+1) qc) (acc++[(⟨kk,(c::s.drop (p+1)).take kn,p⟩:Tok)]).length (tcells (acc++[(⟨kk,(c::s.drop (p+1)).take kn,p⟩:Tok)])):=by
          rw [tcells_append]
          simpa [str] using HOW.out
        have hm5:Mods None W w5:=(HM.out.alloc _).trans' (Mods.of_grownBy HGR.out (S:=fun k=>(Value.slice oa acc.length oc).ownBlock=some k) (fun k hk _=>hk)) (fun k hk hw=>by have:=(HO.out.lt k hk).1;omega)
        have hn5:acc.length+1≤1500:=by have:=HN.out;have:=HN15.out;omega
        cases hz:lexF f1 (s.drop (p+kn)) (p+kn) (acc.length+1) with
        | none=>rw [hz] at hy4;cases hy4
        | some z =>
          rw [hz] at hy4
          have hyz:lexTo acc y=lexTo (acc++[(⟨kk,(c::s.drop (p+1)).take kn,p⟩:Tok)]) z:=by
            cases z with
            | error e=>cases hy4;rfl
            | ok t =>
              cases hy4
              simp only [lexTo,List.append_assoc,List.cons_append,List.nil_append]
          refine ⟨⟨p+kn,acc++[(⟨kk,(c::s.drop (p+1)).take kn,p⟩:Tok)],f1,z,by go_num,by omega,by simpa using hz,hyz,hown2,hm5,HD.out.append htok,by simpa using hn5⟩,?_⟩
          simp only [intOf]
          omega
  · obtain rfl:p=s.length:=by omega
    have hpi:¬ (s.length:Int)<(s.length:Int):=by omega
    rw [List.drop_length] at hy
    simp only [lexF] at hy
    obtain rfl:=(Option.some.inj hy).symm
    clear hy
    obtain ⟨oa,oc,rfl⟩:=lex_form HO.out
    go_wp2_with (at_builtin;refine wpList_append_own_at _ rfl _ _ 72 rfl W.heap.size 79 i0 _ 3 32 Tryz.underlying72 HI.out.1 HI.out.2.1 HI.out.2.2.1 HI.out.2.2.2 rfl (by decide) (.slice oa acc.length oc) acc.length (tcells acc) rfl (HO.out.alloc _) ⟨wr.heap.size,0,none⟩ 1 1 [.int .i64 4,.string ⟨#[]⟩,.int .i64 (s.length:Int)] rfl rfl (three_new _ _ _ _ _) (three_one _ _ _) (by have:=HN.out;unfold maxLen;omega) (by have:=HN.out;omega) (by have:=HM.out.size;simp;omega) ?_;intro v' w5 hown hgrow hnil hloc;have HOW:=hiD hown;have HGR:Hid ((wr.alloc (.cells #[.int .i64 4,.string ⟨#[]⟩,.int .i64 (s.length:Int)] 79)).grownBy w5 (Value.slice oa acc.length oc).ownBlock):=hiD hgrow;clear hown hgrow hnil hloc;refine Hid.out ?_)
    refine hiD ?_
    obtain ⟨g,qc,rfl⟩:∃ g qc,v'=.slice (some ⟨g,0,none⟩) (acc.length+1) qc:=by
        rcases Go.Joins.ownsRow_form HOW.out (by omega) with ⟨g,cap,hv⟩
        exact ⟨g,cap,hv⟩
    go_wp2
    go_ret2
    have hm5:Mods None W w5:=(HM.out.alloc _).trans' (Mods.of_grownBy HGR.out (S:=fun k=>(Value.slice oa acc.length oc).ownBlock=some k) (fun k hk _=>hk)) (fun k hk hw=>by have:=(HO.out.lt k hk).1;omega)
    have hrow:=HOW.out
    have hlt:=(hrow.lt g rfl).2
    have hcells:=hrow.cells (g:=g) rfl
    have htc:tcells (acc++[(⟨4,[],s.length⟩:Tok)])=tcells acc++[.int .i64 4,.string ⟨#[]⟩,.int .i64 (s.length:Int)]:=tcells_append _ _
    have hcap:acc.length+1≤qc∧qc≤9223372036854775807:=by
        rcases hrow.2 with ⟨hv,_⟩|⟨g2,cap2,cur2,hv,_,_,h3,h4,_⟩
        · cases hv
        · cases hv;exact ⟨h3,by unfold maxLen at h4;omega⟩
    refine ⟨g,qc,by simp,by simp;omega,hcap.2,by have:=HN.out;simp;omega,hlt,?_,⟨s.length,by simp⟩,HD.out.append ⟨by simp,fun h=>by simp at h⟩,hm5⟩
    intro i t ht
    have h3:=tcells_at _ i t ht
    rw [htc] at h3
    have key:∀ j u,(tcells acc++[.int .i64 4,.string ⟨#[]⟩,.int .i64 (s.length:Int)])[j]?=some u→w5.cell? ⟨g,j,none⟩=some u:=by
        intro j u hj
        have:=hcells j u hj
        cases j with
        | zero=>exact this
        | succ j=>simpa [Addr.add] using this
    rw [Nat.zero_add]
    exact ⟨key _ _ h3.1,key _ _ h3.2.1,key _ _ h3.2.2⟩
end Go.Proofs.YtnicpmoanjddbaaGreatDoor.TreeP
namespace Go.Proofs.YtnicpmoanjddbaaGreatDoor.Wo
set_option linter.unusedVariables false
theorem step_append_at {P:Program} {ops:Array Oper} {o:Oper} {a:Act} {w:World} {K:Act→World→Prop} {Q:Exit→Act→World→Prop} {E:Prop} (hgd:o.guard=none) (s x:Operand) (t:TypeId)
 (ho:o.op=.call { callee:=.builtin .append,args:=#[s,x],argTypes:=#[t,t] })
 (base:Nat) (e:TypeId) (i:TypeInfo) (z:Value) (size bytes:Nat) (ht:P.underlying t=some (.slice e)) (hi:P.info? e=some i) (hz:i.zero=some z)
 (hsize:i.size=size) (hby:i.bytes=bytes) (hzs:z.cells.size=size) (hsz:0<size)
 (v:Value) (n:Nat) (xs:List Value) (hs:a.eval s=v) (hown:w.ownsRow base e size v n xs)
 (ad:Addr) (m c:Nat) (news:List Value) (hx:a.eval x=.slice (some ad) m c) (hl:news.length=m*size) (hnews:∀ j u,news[j]?=some u→w.cell? (ad.add j)=some u) (h1:∀ u∈news,u.oneCell'=true)
 (h63:n+m≤maxLen) (hbytes:(n+m)*bytes≤140737488355328) (hbase:base≤w.heap.size)
 (h:∀ v' w',w'.ownsRow base e size v' (n+m) (xs++news)→w.grownBy w' v.ownBlock→(v'.ownBlock=v.ownBlock∨v'.ownBlock=some w.heap.size)→K (a.put o.dst v') w') :
 if Region.wanted o (yielded ops a.tmps)=true then Oper.wp P o a w K Q else E:=by
 have hw:Region.wanted o (yielded ops a.tmps)=true:=by simp [Region.wanted,hgd]
 rw [if_pos hw]
 obtain ⟨v',w',hr,h2,h3,_,h5⟩:=run_append_own_at (P:=P) w base t o.type e i z size bytes ht hi hz hsize hby hzs hsz v n xs hown ad m c news hl hnews h1 h63 hbytes hbase
 unfold Oper.wp execOp
 simp only [ho,resolve,invoke,builtin,Sem.run_bind,Sem.run_pure,Result.andThen_ok,List.map_toArray,List.map_cons,List.map_nil,hs,hx,hr]
 exact h v' w' h2 h3 h5
end Go.Proofs.YtnicpmoanjddbaaGreatDoor.Wo
