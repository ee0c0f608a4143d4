/- The document's tokens. Conditions: that Fine, and a number of the library's own, lie. -/
import Derived.Test.YtdgedlhefjmcpaaGreatDoorEn09
import Derived.Test.YtdgedlhefjmcpaaGreatDoorEn05
import Derived.Test.YtdgedlhefjmcpaaGreatDoorEn07
import Derived.Test.YtdgedlhefjmcpaaGreatDoorShelfE
import Derived.Test.YtdgedlhefjmcpaaGreatDoorShelfC
import Derived.Deep.Cut
import Derived.Deep.DeepCutAuto
import Derived.Deep.CutBlock
namespace Go.Proofs.YtdgedlhefjmcpaaGreatDoor.TreeP.R
open Go.RowKit Go.Proofs.YtdgedlhefjmcpaaGreatDoor.Wo Go.Proofs.YtdgedlhefjmcpaaGreatDoor.TreeP
set_option linter.unusedVariables false
set_option linter.unusedSimpArgs false
theorem low_any (c:UInt8) (W:World) :
  Calls Tryz.prog 74 #[.int .u8 c.toNat] W fun e w=>e=.returned (.bool (letterB c))∧W=w:=by
 obtain ⟨n,hn⟩:∃ n:Int,n=c.toNat:=⟨_,rfl⟩
 have hb:letterB c=((decide (97≤n) && decide (n≤122)) || n==95):=by
  unfold letterB
  rw [hn]
  have h1:decide (97≤c.toNat)=decide (97≤(c.toNat:Int)):=by simp;omega
  have h2:decide (c.toNat≤122)=decide ((c.toNat:Int)≤122):=by simp;omega
  have h3:(c.toNat==95)=((c.toNat:Int)==95):=by rw [Bool.eq_iff_iff];simp;omega
  rw [h1,h2,h3]
 rw [hb,← hn]
 clear hb hn
 by_cases h1:97≤n
 ·by_cases h2:n≤122
  ·go_enter Tryz.func74,Tryz.ntmps74
   go_wp2
   go_ret
   exact ⟨by simp [h1,h2] <;> omega,rfl⟩
  ·go_enter Tryz.func74,Tryz.ntmps74
   go_wp2
   go_ret
   exact ⟨by simp [h1,h2] <;> omega,rfl⟩
 ·go_enter Tryz.func74,Tryz.ntmps74
  go_wp2
  go_ret
  exact ⟨by simp [h1] <;> omega,rfl⟩
theorem dig_any (c:UInt8) (W:World) :
  Calls Tryz.prog 75 #[.int .u8 c.toNat] W fun e w=>e=.returned (.bool (digitB c))∧W=w:=by
 obtain ⟨n,hn⟩:∃ n:Int,n=c.toNat:=⟨_,rfl⟩
 have hb:digitB c=(decide (48≤n) && decide (n≤57)):=by
  unfold digitB
  rw [hn]
  have h1:decide (48≤c.toNat)=decide (48≤(c.toNat:Int)):=by simp;omega
  have h2:decide (c.toNat≤57)=decide ((c.toNat:Int)≤57):=by simp;omega
  rw [h1,h2]
 rw [hb,← hn]
 clear hb hn
 by_cases h1:48≤n
 ·go_enter Tryz.func75,Tryz.ntmps75
  go_wp2
  go_ret
  exact ⟨by simp [h1] <;> omega,rfl⟩
 ·go_enter Tryz.func75,Tryz.ntmps75
  go_wp2
  go_ret
  exact ⟨by simp [h1] <;> omega,rfl⟩
theorem marks_count:Lib.countB ⟨#[38,38,32,124,124,32,61,61,32,33,61,32,60,61,32,62,61,32,60,32,62,32,61,32,43,32,45,32,42,32,47,32,37,32,33,32,40,32,41,32,123,32,125,32,91,32,93,32,44,32,59,32,58]⟩ ⟨#[32]⟩=23:=by kernel_rfl
theorem marks_split:(Lib.splitB ⟨#[32]⟩ 0 23 ⟨#[38,38,32,124,124,32,61,61,32,33,61,32,60,61,32,62,61,32,60,32,62,32,61,32,43,32,45,32,42,32,47,32,37,32,33,32,40,32,41,32,123,32,125,32,91,32,93,32,44,32,59,32,58]⟩).map Value.string=markList.map str:=by kernel_rfl
theorem split_any (W:World) (b:Nat) (hM:MaxAt W b) :
  Calls Tryz.prog 76 #[.string ⟨#[38,38,32,124,124,32,61,61,32,33,61,32,60,61,32,62,61,32,60,32,62,32,61,32,43,32,45,32,42,32,47,32,37,32,33,32,40,32,41,32,123,32,125,32,91,32,93,32,44,32,59,32,58]⟩,.string ⟨#[32]⟩] W fun e w=>∃ g,e=.returned (.slice (some ⟨g,0,none⟩) 24 24)∧Blk w g (markList.map str) 9∧Mods None W w:=by
 obtain ⟨-,m,hm⟩:=hM
 refine (Tryz.strings_Split _ _ m W (by decide) hm (by decide)).mono ?_
 rintro e w ⟨h1,h2⟩
 rw [marks_count] at h1 h2
 rw [marks_split] at h2
 refine ⟨W.heap.size,h1,?_,?_⟩
 ·rw [h2];exact Blk.new W _ _
 ·rw [h2];exact (Mods.refl _ _).alloc _
theorem take_while (q:UInt8→Bool) (l:List UInt8):l.take (l.takeWhile q).length=l.takeWhile q:=by
 have:=List.takeWhile_append_dropWhile (p:=q) (l:=l)
 conv=>lhs;arg 2;rw [← this]
 exact List.take_left
theorem next_letter {c:UInt8} {r:List UInt8} (h:letterB c=true):(nextP (c::r)).1=1∧(nextP (c::r)).2=((c::r).takeWhile wordB).length:=by
 simp only [nextP]
 rw [if_pos h]
 exact ⟨rfl,rfl⟩
theorem next_digit {c:UInt8} {r:List UInt8} (h1:letterB c=false) (h:digitB c=true):(nextP (c::r)).1=2∧(nextP (c::r)).2=((c::r).takeWhile digitB).length:=by
 simp only [nextP]
 rw [if_neg (by rw [h1];simp),if_pos h]
 exact ⟨rfl,rfl⟩
theorem next_marks {c:UInt8} {r:List UInt8} (h1:letterB c=false) (h:digitB c=false):(nextP (c::r)).1=3∧(nextP (c::r)).2=markN (c::r):=by
 simp only [nextP,markN]
 rw [if_neg (by rw [h1];simp),if_neg (by rw [h];simp)]
 cases markList.find? (fun m=>m.isPrefixOf (c::r)) with
 | none=>exact ⟨rfl,rfl⟩
 | some m=>exact ⟨rfl,rfl⟩
theorem next_tf (c:UInt8) (r:List UInt8) (p:Nat):(nextP (c::r)).2≠0→TF ⟨(nextP (c::r)).1,(c::r).take (nextP (c::r)).2,p⟩:=by
 intro h0
 cases hL:letterB c
 ·cases hG:digitB c
  ·obtain ⟨h1,h2⟩:=next_marks (r:=r) hL hG
   rw [h2] at h0 ⊢
   rw [h1]
   refine Or.inr (Or.inr (Or.inl ⟨rfl,?_⟩))
   unfold markN at h0 ⊢
   cases hf:markList.find? (fun (m:List UInt8)=>m.isPrefixOf (c::r)) with
   | none=>rw [hf] at h0;exact absurd rfl h0
   | some m =>
    have h3:m.isPrefixOf (c::r)=true:=List.find?_some (p:=fun (m:List UInt8)=>m.isPrefixOf (c::r)) hf
    rw [List.isPrefixOf_iff_prefix] at h3
    have h4:=List.mem_of_find?_eq_some hf
    have h5:(c::r).take m.length=m:=(List.prefix_iff_eq_take.1 h3).symm
    simp only [Option.map_some,Option.getD_some,h5]
    exact h4
  ·obtain ⟨h1,h2⟩:=next_digit (r:=r) hL hG
   rw [h1,h2,take_while]
   refine Or.inr (Or.inl ⟨rfl,?_,?_⟩)
   ·rw [List.takeWhile_cons,hG];simp
   ·rw [List.all_eq_true];exact fun x hx=>List.all_eq_true.1 (List.all_takeWhile) x hx
 ·obtain ⟨h1,h2⟩:=next_letter (r:=r) hL
  rw [h1,h2,take_while]
  refine Or.inl ⟨rfl,?_,?_⟩
  ·rw [List.takeWhile_cons,show wordB c=true by simp [wordB,hL]]
   exact ⟨c,_,rfl,hL⟩
  ·rw [List.all_eq_true]
   intro x hx
   have:=List.all_eq_true.1 (List.all_takeWhile (p:=wordB) (l:=c::r)) x hx
   exact this
def Made (ts:List Tok):Prop:=∀ t∈ts,t.text.length≤10000000∧TF t
theorem Made.append {ts:List Tok} {t:Tok} (h:Made ts) (h1:t.text.length≤10000000∧TF t):Made (ts++[t]):=by
 intro u hu
 rw [List.mem_append,List.mem_singleton] at hu
 rcases hu with hu|rfl
 ·exact h u hu
 ·exact h1
def Lexed (W:World):Except (Int×Int) (List Tok)→Ending→World→Prop
 | .error (n,a)=>fun e w=>e=.returned (.tuple #[.slice none 0 0,.agg #[.int .i64 n,.int .i64 a]])∧(n=3∨n=4)∧Mods None W w
 | .ok ts=>fun e w=>∃ g c,e=.returned (.tuple #[.slice (some ⟨g,0,none⟩) ts.length c,.agg #[.int .i64 0,.int .i64 (-1)]])∧ts.length≤c∧c≤9223372036854775807∧ts.length≤1501∧g<w.heap.size∧ToksAt w g 0 ts∧Ends ts∧Made ts∧Mods None W w
def LexAt (s:List UInt8) (W:World) (x:Except (Int×Int) (List Tok)) (lv iv:Value) (wr:World):Prop :=
 ∃ (p:Nat) (acc:List Tok) (f:Nat) (y:Except (Int×Int) (List Tok)),iv=.int .i64 p∧p≤s.length∧lexF f (s.drop p) p acc.length=some y∧x=lexTo acc y∧wr.ownsRow (W.heap.size+1) 95 3 lv acc.length (tcells acc)∧Mods None W wr∧Made acc∧acc.length≤1500∧Blk wr W.heap.size [.int .i64 0,.int .i64 0] 40
theorem tok_info:(Tryz.prog.info? 95).map (fun i=>(i.zero,i.size,i.bytes))=some (some (.agg #[.int .i64 0,.string ⟨#[]⟩,.int .i64 0]),3,32):=by kernel_rfl
set_option maxRecDepth 100000 in
set_option maxHeartbeats 4000000 in
theorem tokens_any (s:List UInt8) (b f:Nat) (x:Except (Int×Int) (List Tok)) (W:World) (hF:FineAt W b) (hM:MaxAt W b) (hlen:s.length≤10000000) (hx:lexF f s 0 0=some x) :
  Calls Tryz.prog 41 #[str s] W (Lexed W x):=by
 have HX:=hiD hx
 have HFM:=hiD (fun (w:World) (h:Mods None W w)=>(⟨hF.far h (fun _ f=>f.elim),hM.far h (fun _ f=>f.elim)⟩:FineAt w b∧MaxAt w b))
 obtain ⟨i0,hi,hz0,hz1,hz2⟩:=info_parts tok_info
 have HI:=hiD (⟨hi,hz0,hz1,hz2⟩:_∧_∧_∧_)
 have HB0:=hiD (Blk.new W #[.int .i64 0,.int .i64 0] 40)
 clear hx hM hF hi hz0 hz1 hz2
 unfold str
 go_enter Tryz.func41,Tryz.ntmps41
 go_wp2_with fail
 go_loopw [4,5] (fun lv iv wr=>LexAt s W x lv iv wr) (fun _ iv _=>(s.length-intOf iv).toNat)
 case atStart=>exact ⟨0,[],f,x,rfl,Nat.zero_le _,HX.out,(by cases x <;> rfl),World.ownsRow_nil _ _ _ _,(Mods.refl _ _).alloc _,(fun _ h=>nomatch h),by simp,HB0.out⟩
 case round =>
  clear HX HB0
  obtain ⟨p,acc,ff,y,rfl,hp,hy,rfl,hown,hm,hmade,hn,hb0⟩:=hrel
  have HO:=hiD hown
  have HM:=hiD hm
  have HD:=hiD hmade
  have HN:=hiD hn
  have HB0:=hiD hb0
  clear hown hm hmade hn hb0
  cases ff with
  | zero=>simp [lexF] at hy
  | succ f1 =>
  by_cases hps:p<s.length
  ·obtain ⟨c,hc⟩:∃ c,s[p]?=some c:=⟨s[p],List.getElem?_eq_getElem hps⟩
   have hix:=str_at hc wr
   have hdr:s.drop p=c::s.drop (p+1):=by
    have:=List.drop_eq_getElem_cons hps
    rw [this]
    congr 1
    exact (List.getElem?_eq_some_iff.1 hc).2
   have hpi:(p:Int)<(s.length:Int):=by omega
   rw [hdr] at hy
   simp only [lexF] at hy
   obtain ⟨xc,hxc⟩:∃ xc:Int,xc=c.toNat:=⟨_,rfl⟩
   rw [← hxc] at hix
   have hx0:0≤xc∧xc<256:=by rw [hxc];have:=c.toNat_lt;omega
   by_cases hb:blankB c=true
   ·rw [if_pos hb] at hy
    have HY:=hiD hy
    have hb3:xc=32∨xc=9∨xc=10:=by
     simp only [blankB,Bool.or_eq_true,beq_iff_eq] at hb
     omega
    clear hy hb hdr hc hxc
    rcases hb3 with rfl|rfl|rfl
    all_goals
     go_wp2_with fail
     exact ⟨⟨p+1,acc,f1,y,by go_num,by omega,HY.out,rfl,HO.out,HM.out,HD.out,HN.out,HB0.out⟩,by simp [intOf];omega⟩
   ·rw [if_neg hb] at hy
    have hnb:¬ xc=32∧¬ xc=9∧¬ xc=10:=by
     simp only [blankB,Bool.or_eq_true,beq_iff_eq] at hb
     omega
    obtain ⟨n32,n9,n10⟩:=hnb
    by_cases h35:xc=35
    ·have h35':c.toNat=35:=by omega
     rw [if_pos (by simpa using h35')] at hy
     subst h35
     rw [← hdr] at hy
     have HY:=hiD hy
     obtain ⟨K,hK⟩:∃ K,K=((s.drop p).takeWhile fun x=>x.toNat != 10).length:=⟨_,rfl⟩
     have hKl:K≤s.length-p:=by
      have:=takeWhile_le (fun x=>x.toNat != 10) (s.drop p)
      rw [← hK] at this
      simpa using this
     have hK1:1≤K:=by
      rw [hK,hdr,List.takeWhile_cons,if_pos (by simp [h35'])]
      simp
     have HA:=hiD (fun n=>run_at (fun x=>x.toNat != 10) (s.drop p) n)
     rw [← hK] at HA HY
     have HDW:Hid ((s.drop p).dropWhile (fun x=>x.toNat != 10)=s.drop (p+K)):=hiD (by
      have e:=List.takeWhile_append_dropWhile (p:=fun (x:UInt8)=>x.toNat != 10) (l:=s.drop p)
      have e2:(s.drop p).drop K=(s.drop p).dropWhile (fun x=>x.toNat != 10):=by
       conv=>lhs;arg 2;rw [← e]
       rw [hK]
       exact List.drop_left
      rw [← e2,List.drop_drop])
     clear hy hb hdr hc hxc h35' hK
     go_wp2_with fail
     go_loopw [5] (fun iv wr2=>∃ k:Nat,k≤K∧iv=.int .i64 ((p+k:Nat):Int)∧Hid (wr=wr2)) (fun iv _=>(p+K-intOf iv).toNat)
     case atStart=>exact ⟨0,by omega,rfl,hiD (by first|trivial|rfl)⟩
     case round =>
      obtain ⟨k,hk,rfl,hw⟩:=hrel
      obtain rfl:=hw.out
      clear hw
      by_cases hlt:k<K
      ·obtain ⟨d,hd1,hd2⟩:=(HA.out k hk).1 hlt
       have hpl:(p:Int)+(k:Int)<(s.length:Int):=by omega
       have hix2:=str_at (n:=p+k) (l:=s) (c:=d) (by rw [← hd1,List.getElem?_drop]) wr
       rw [Int.natCast_add] at hix2
       have hd10:¬ (d.toNat:Int)=10:=by simp at hd2;omega
       clear hd1 hd2 hix
       go_wp2_with fail
       exact ⟨⟨k+1,by omega,by go_num,hiD (by first|trivial|rfl)⟩,by simp [intOf];omega⟩
      ·obtain rfl:k=K:=by omega
       by_cases hpl2:p+k<s.length
       ·obtain ⟨d,hd1,hd2⟩:=(HA.out k hk).2 rfl (by simp;omega)
        have hpl:(p:Int)+(k:Int)<(s.length:Int):=by omega
        have hix2:=str_at (n:=p+k) (l:=s) (c:=d) (by rw [← hd1,List.getElem?_drop]) wr
        rw [Int.natCast_add] at hix2
        have hd10:(d.toNat:Int)=10:=by simp at hd2;omega
        rw [hd10] at hix2
        clear hd1 hd2 hix hd10
        go_wp2_with fail
        refine ⟨⟨p+k,acc,f1,y,by go_num,by omega,?_,rfl,HO.out,HM.out,HD.out,HN.out,HB0.out⟩,by simp [intOf];omega⟩
        rw [← HDW.out]
        exact HY.out
       ·have hpl:¬ (p:Int)+(k:Int)<(s.length:Int):=by omega
        clear hix
        go_wp2_with fail
        refine ⟨⟨p+k,acc,f1,y,by go_num,by omega,?_,rfl,HO.out,HM.out,HD.out,HN.out,HB0.out⟩,by simp [intOf];omega⟩
        rw [← HDW.out]
        exact HY.out
    ·have h35':¬ c.toNat=35:=by omega
     rw [if_neg (by simpa using h35')] at hy
     have HY:=hiD hy
     have HDR:=hiD hdr
     obtain ⟨kk,hkk⟩:∃ k,k=nextP (c::s.drop (p+1)):=⟨_,rfl⟩
     have HKK:=hiD hkk
     have HXC:=hiD hxc
     have hb32:(xc==32)=false:=by simpa using n32
     have hb9:(xc==9)=false:=by simpa using n9
     have hb10:(xc==10)=false:=by simpa using n10
     have hb35:(xc==35)=false:=by simpa using h35
     clear hy hkk hdr hxc hb n32 n9 n10 h35
     go_upto_block 4 with (fail)
     go_cut [7] (fun kv w=>kv=.int .i64 ((p+kk.2:Nat):Int)∧Hid (Mods None wr w∧Blk w wr.heap.size [.int .i64 kk.1,.string ⟨#[]⟩,.int .i64 p] 95))
     case first =>
      clear HY HO HD HN HB0 hix
      have HLOW:=hiD (fun (w:World)=>(HXC.out ▸ low_any c w:Calls Tryz.prog 74 #[.int .u8 xc] w fun e w'=>e=.returned (.bool (letterB c))∧w=w'))
      have HDIG:=hiD (fun (w:World)=>(HXC.out ▸ dig_any c w:Calls Tryz.prog 75 #[.int .u8 xc] w fun e w'=>e=.returned (.bool (digitB c))∧w=w'))
      have HL:=hiD (fun (d:UInt8) (w:World)=>low_any d w)
      have HD:=hiD (fun (d:UInt8) (w:World)=>dig_any d w)
      cases hL:letterB c
      ·cases hG:digitB c
       ·have HKN:Hid (kk.1=3∧kk.2=markN (s.drop p)):=hiD (by
         rw [HKK.out,HDR.out]
         exact next_marks hL hG)
        obtain ⟨l,hl⟩:∃ l,l=s.drop p:=⟨_,rfl⟩
        have HSL:Hid ((⟨s.toArray⟩:ByteArray).extract p s.length=⟨l.toArray⟩):=hiD (by
         rw [ByteArray.extract_mk,hl]
         congr 2
         apply List.take_of_length_le
         simp)
        rw [← hl] at HKN
        have HLL:=hiD hl
        have HKN2:Hid (kk.2=if passB 2 24 l then 2 else if passB 1 24 l then 1 else 0):=hiD (by rw [HKN.out.2,mark_two])
        have HSP:=hiD (fun (w:World) (hm:Mods None W w)=>split_any w b (HFM.out w hm).2)
        have HP:=hiD (fun (m:List UInt8) (w:World)=>Tryz.strings_HasPrefix ⟨l.toArray⟩ ⟨m.toArray⟩ w)
        have HLd:=hiD hL
        have HGd:=hiD hG
        clear hL hG hl HL HD
        go_wp2_with fail
        go_at_call 74
        refine (HLOW.out _).mono ?_
        rintro e w ⟨rfl,rfl⟩
        rw [HLd.out]
        go_wp2_with fail
        go_at_call 75
        refine (HDIG.out _).mono ?_
        rintro e w ⟨rfl,rfl⟩
        rw [HGd.out]
        go_wp2_with fail
        obtain ⟨w2,hw2⟩:∃ w2,w2=wr.alloc (.cells #[.int .i64 3,.string ⟨#[]⟩,.int .i64 p] 95):=⟨_,rfl⟩
        rw [← hw2]
        have HW2:Hid (Mods None wr w2∧Blk w2 wr.heap.size [.int .i64 3,.string ⟨#[]⟩,.int .i64 p] 95):=hiD (by rw [hw2];exact ⟨(Mods.refl _ _).alloc _,Blk.new wr _ _⟩)
        clear hw2
        obtain ⟨wo,rfl⟩:∃ wo:World,wo=wr:=⟨_,rfl⟩
        go_loopw [7,9] (fun kv nv w3=>∃ n:Nat,n≤2∧nv=.int .i64 n∧∃ k:Nat,kv=.int .i64 ((p+k:Nat):Int)∧Hid (k=if n=2 then 0 else if n=1 then (if passB 2 24 l then 2 else 0) else (if passB 2 24 l then 2 else if passB 1 24 l then 1 else 0))∧Hid (Mods None wo w3∧Blk w3 wo.heap.size [.int .i64 3,.string ⟨#[]⟩,.int .i64 p] 95)) (fun _ nv _=>(intOf nv).toNat)
        case atStart=>exact ⟨2,by omega,rfl,0,rfl,hiD rfl,HW2⟩
        case round =>
         obtain ⟨n,hn,rfl,k,rfl,HK,HQ⟩:=hrel
         clear HW2
         obtain rfl|rfl|rfl:n=2∨n=1∨n=0:=by omega
         ·obtain rfl:k=0:=HK.out
          have hw3c:=HQ.out.2
          have HQM:=hiD (HM.out.trans HQ.out.1)
          go_wp2_with fail
          go_at_call 76
          refine (HSP.out _ HQM.out).mono ?_
          rintro e w4 ⟨g,rfl,hg,hm4⟩
          have HQ4:Hid (Mods None wo w4∧Blk w4 wo.heap.size [.int .i64 3,.string ⟨#[]⟩,.int .i64 p] 95):=hiD ⟨HQ.out.1.trans hm4,HQ.out.2.mods hm4 (fun f=>f)⟩
          have HG:=hiD hg
          clear hg hm4 HQ HQM hw3c
          go_wp2_with fail
          go_loopw [7,60] (fun kv iv w5=>∃ i:Nat,i≤24∧iv=.int .i64 i∧∃ k:Nat,kv=.int .i64 ((p+k:Nat):Int)∧Hid (k=if passB 2 i l then 2 else 0)∧Hid (w4=w5)) (fun _ iv _=>(24-intOf iv).toNat)
          case atStart=>exact ⟨0,by omega,rfl,0,rfl,hiD rfl,hiD (by first|trivial|rfl)⟩
          case round =>
           obtain ⟨i,hi,rfl,k,rfl,HK2,hw⟩:=hrel
           obtain rfl:=hw.out
           clear hw
           by_cases hlt:i<24
           ·obtain ⟨m,hm⟩:∃ m,markList[i]?=some m:=⟨markList[i],List.getElem?_eq_getElem (by exact hlt)⟩
            have hgc:w4.cell? ⟨g,i,none⟩=some (.string ⟨m.toArray⟩):=HG.out.cell (by rw [List.getElem?_map,hm];rfl)
            have hii:(i:Int)<24:=by omega
            have HNX:=hiD (passB_next (n:=2) (l:=l) hm)
            clear hm
            by_cases hmn:m.length=2
            ·have hmb:((m.length:Int)==2)=true:=by rw [hmn];rfl
             have HPM:=hiD (HP.out m w4)
             cases hpf:m.isPrefixOf l
             ·have HPF:Hid (Lib.hasPrefix l m=false):=hiD hpf
              have HNX2:Hid (passB 2 (i+1) l=passB 2 i l):=hiD (by rw [HNX.out,hpf];simp)
              clear hpf hmn
              go_wp2_with fail
              rw [HSL.out]
              go_at_call 77
              refine HPM.out.mono ?_
              rintro e w ⟨rfl,rfl⟩
              simp only [HPF.out]
              go_wp2_with fail
              exact ⟨⟨i+1,by omega,by go_num,k,rfl,hiD (by rw [HNX2.out];exact HK2.out),hiD (by first|trivial|rfl)⟩,by simp [intOf];omega⟩
             ·have HPF:Hid (Lib.hasPrefix l m=true):=hiD hpf
              have HNX2:Hid (passB 2 (i+1) l=true):=hiD (by rw [HNX.out,hpf,hmn];simp)
              clear hpf hmn
              go_wp2_with fail
              rw [HSL.out]
              go_at_call 77
              refine HPM.out.mono ?_
              rintro e w ⟨rfl,rfl⟩
              simp only [HPF.out]
              go_wp2_with fail
              exact ⟨⟨i+1,by omega,by go_num,2,by go_num,hiD (by rw [HNX2.out];rfl),hiD (by first|trivial|rfl)⟩,by simp [intOf];omega⟩
            ·have hmb:((m.length:Int)==2)=false:=by simp;omega
             have HNX2:Hid (passB 2 (i+1) l=passB 2 i l):=hiD (by rw [HNX.out];simp [hmn])
             clear hmn
             go_wp2_with fail
             exact ⟨⟨i+1,by omega,by go_num,k,rfl,hiD (by rw [HNX2.out];exact HK2.out),hiD (by first|trivial|rfl)⟩,by simp [intOf];omega⟩
           ·obtain rfl:i=24:=by omega
            go_wp2_with fail
            exact ⟨⟨1,by omega,by go_num,⟨k,rfl,hiD (by rw [HK2.out];rfl),HQ4⟩⟩,by simp [intOf]⟩
         ·cases h2:passB 2 24 l
          ·obtain rfl:k=0:=by have:=HK.out;rw [h2] at this;simpa using this
           have H2:=hiD h2
           clear h2
           have hw3c:=HQ.out.2
           have HQM:=hiD (HM.out.trans HQ.out.1)
           go_wp2_with fail
           go_at_call 76
           refine (HSP.out _ HQM.out).mono ?_
           rintro e w4 ⟨g,rfl,hg,hm4⟩
           have HQ4:Hid (Mods None wo w4∧Blk w4 wo.heap.size [.int .i64 3,.string ⟨#[]⟩,.int .i64 p] 95):=hiD ⟨HQ.out.1.trans hm4,HQ.out.2.mods hm4 (fun f=>f)⟩
           have HG:=hiD hg
           clear hg hm4 HQ HQM hw3c
           go_wp2_with fail
           go_loopw [7,60] (fun kv iv w5=>∃ i:Nat,i≤24∧iv=.int .i64 i∧∃ k:Nat,kv=.int .i64 ((p+k:Nat):Int)∧Hid (k=if passB 1 i l then 1 else 0)∧Hid (w4=w5)) (fun _ iv _=>(24-intOf iv).toNat)
           case atStart=>exact ⟨0,by omega,rfl,0,rfl,hiD rfl,hiD (by first|trivial|rfl)⟩
           case round =>
            obtain ⟨i,hi,rfl,k,rfl,HK2,hw⟩:=hrel
            obtain rfl:=hw.out
            clear hw
            by_cases hlt:i<24
            ·obtain ⟨m,hm⟩:∃ m,markList[i]?=some m:=⟨markList[i],List.getElem?_eq_getElem (by exact hlt)⟩
             have hgc:w4.cell? ⟨g,i,none⟩=some (.string ⟨m.toArray⟩):=HG.out.cell (by rw [List.getElem?_map,hm];rfl)
             have hii:(i:Int)<24:=by omega
             have HNX:=hiD (passB_next (n:=1) (l:=l) hm)
             clear hm
             by_cases hmn:m.length=1
             ·have hmb:((m.length:Int)==1)=true:=by rw [hmn];rfl
              have HPM:=hiD (HP.out m w4)
              cases hpf:m.isPrefixOf l
              ·have HPF:Hid (Lib.hasPrefix l m=false):=hiD hpf
               have HNX2:Hid (passB 1 (i+1) l=passB 1 i l):=hiD (by rw [HNX.out,hpf];simp)
               clear hpf hmn
               go_wp2_with fail
               rw [HSL.out]
               go_at_call 77
               refine HPM.out.mono ?_
               rintro e w ⟨rfl,rfl⟩
               simp only [HPF.out]
               go_wp2_with fail
               exact ⟨⟨i+1,by omega,by go_num,k,rfl,hiD (by rw [HNX2.out];exact HK2.out),hiD (by first|trivial|rfl)⟩,by simp [intOf];omega⟩
              ·have HPF:Hid (Lib.hasPrefix l m=true):=hiD hpf
               have HNX2:Hid (passB 1 (i+1) l=true):=hiD (by rw [HNX.out,hpf,hmn];simp)
               clear hpf hmn
               go_wp2_with fail
               rw [HSL.out]
               go_at_call 77
               refine HPM.out.mono ?_
               rintro e w ⟨rfl,rfl⟩
               simp only [HPF.out]
               go_wp2_with fail
               exact ⟨⟨i+1,by omega,by go_num,1,by go_num,hiD (by rw [HNX2.out];rfl),hiD (by first|trivial|rfl)⟩,by simp [intOf];omega⟩
             ·have hmb:((m.length:Int)==1)=false:=by simp;omega
              have HNX2:Hid (passB 1 (i+1) l=passB 1 i l):=hiD (by rw [HNX.out];simp [hmn])
              clear hmn
              go_wp2_with fail
              exact ⟨⟨i+1,by omega,by go_num,k,rfl,hiD (by rw [HNX2.out];exact HK2.out),hiD (by first|trivial|rfl)⟩,by simp [intOf];omega⟩
            ·obtain rfl:i=24:=by omega
             go_wp2_with fail
             exact ⟨⟨0,by omega,by go_num,⟨k,rfl,hiD (by rw [HK2.out];rfl),HQ4⟩⟩,by simp [intOf]⟩
          ·obtain rfl:k=2:=by have:=HK.out;rw [h2] at this;simpa using this
           have H2:=hiD h2
           have hne:((p:Int)+2==(p:Int))=false:=by simp;omega
           clear h2
           go_wp2_with fail
           go_meet
           case rel=>exact ⟨by rw [HKN2.out,H2.out];rfl,hiD (by rw [HKN.out.1];exact HQ.out)⟩
         ·go_wp2_with fail
          go_meet
          case rel=>exact ⟨by rw [HKN2.out,show k=(if passB 2 24 l then 2 else if passB 1 24 l then 1 else 0) from HK.out],hiD (by rw [HKN.out.1];exact HQ.out)⟩
       ·have HKN:Hid (kk.1=2∧kk.2=((s.drop p).takeWhile digitB).length):=hiD (by
         rw [HKK.out,HDR.out]
         exact next_digit hL hG)
        obtain ⟨K,hK⟩:∃ K,K=((s.drop p).takeWhile digitB).length:=⟨_,rfl⟩
        have hKl:K≤s.length-p:=by
         have:=takeWhile_le digitB (s.drop p)
         rw [← hK] at this
         simpa using this
        have HA:=hiD (fun n=>run_at digitB (s.drop p) n)
        rw [← hK] at HA HKN
        have HLd:=hiD hL
        have HGd:=hiD hG
        clear hL hG hK
        go_wp2_with fail
        go_at_call 74
        refine (HLOW.out _).mono ?_
        rintro e w ⟨rfl,rfl⟩
        rw [HLd.out]
        go_wp2_with fail
        go_at_call 75
        refine (HDIG.out _).mono ?_
        rintro e w ⟨rfl,rfl⟩
        rw [HGd.out]
        go_wp2_with fail
        obtain ⟨w2,hw2⟩:∃ w2,w2=wr.alloc (.cells #[.int .i64 2,.string ⟨#[]⟩,.int .i64 p] 95):=⟨_,rfl⟩
        rw [← hw2]
        have HW2:Hid (Mods None wr w2∧Blk w2 wr.heap.size [.int .i64 2,.string ⟨#[]⟩,.int .i64 p] 95):=hiD (by rw [hw2];exact ⟨(Mods.refl _ _).alloc _,Blk.new wr _ _⟩)
        clear hw2
        go_loopw [7] (fun iv w3=>∃ k:Nat,k≤K∧iv=.int .i64 ((p+k:Nat):Int)∧Hid (w2=w3)) (fun iv _=>(p+K-intOf iv).toNat)
        case atStart=>exact ⟨0,by omega,rfl,hiD (by first|trivial|rfl)⟩
        case round =>
         obtain ⟨k,hk,rfl,hw⟩:=hrel
         obtain rfl:=hw.out
         clear hw
         by_cases hlt:k<K
         ·obtain ⟨d,hd1,hd2⟩:=(HA.out k hk).1 hlt
          have hpl:(p:Int)+(k:Int)<(s.length:Int):=by omega
          have hix2:=str_at (n:=p+k) (l:=s) (c:=d) (by rw [← hd1,List.getElem?_drop]) w2
          rw [Int.natCast_add] at hix2
          have HDd:=hiD hd2
          clear hd1 hd2
          go_wp2_with fail
          go_at_call 75
          refine (HD.out d _).mono ?_
          rintro e w ⟨rfl,rfl⟩
          rw [HDd.out]
          go_wp2_with fail
          exact ⟨⟨k+1,by omega,by go_num,hiD (by first|trivial|rfl)⟩,by simp [intOf];omega⟩
         ·obtain rfl:k=K:=by omega
          by_cases hpl2:p+k<s.length
          ·obtain ⟨d,hd1,hd2⟩:=(HA.out k hk).2 rfl (by simp;omega)
           have hpl:(p:Int)+(k:Int)<(s.length:Int):=by omega
           have hix2:=str_at (n:=p+k) (l:=s) (c:=d) (by rw [← hd1,List.getElem?_drop]) w2
           rw [Int.natCast_add] at hix2
           have HDd:=hiD hd2
           clear hd1 hd2
           go_wp2_with fail
           go_at_call 75
           refine (HD.out d _).mono ?_
           rintro e w ⟨rfl,rfl⟩
           rw [HDd.out]
           go_wp2_with fail
           go_meet
           case rel=>exact ⟨by rw [HKN.out.2];go_num,hiD (by rw [HKN.out.1];exact HW2.out)⟩
          ·have hpl:¬ (p:Int)+(k:Int)<(s.length:Int):=by omega
           go_wp2_with fail
           go_meet
           case rel=>exact ⟨by rw [HKN.out.2];go_num,hiD (by rw [HKN.out.1];exact HW2.out)⟩
      ·have HKN:Hid (kk.1=1∧kk.2=((s.drop p).takeWhile wordB).length):=hiD (by
        rw [HKK.out,HDR.out]
        exact next_letter hL)
       obtain ⟨K,hK⟩:∃ K,K=((s.drop p).takeWhile wordB).length:=⟨_,rfl⟩
       have hKl:K≤s.length-p:=by
        have:=takeWhile_le wordB (s.drop p)
        rw [← hK] at this
        simpa using this
       have HA:=hiD (fun n=>run_at wordB (s.drop p) n)
       rw [← hK] at HA HKN
       have HLd:=hiD hL
       clear hL hK
       go_wp2_with fail
       go_at_call 74
       refine (HLOW.out _).mono ?_
       rintro e w ⟨rfl,rfl⟩
       rw [HLd.out]
       go_wp2_with fail
       obtain ⟨w2,hw2⟩:∃ w2,w2=wr.alloc (.cells #[.int .i64 1,.string ⟨#[]⟩,.int .i64 p] 95):=⟨_,rfl⟩
       rw [← hw2]
       have HW2:Hid (Mods None wr w2∧Blk w2 wr.heap.size [.int .i64 1,.string ⟨#[]⟩,.int .i64 p] 95):=hiD (by rw [hw2];exact ⟨(Mods.refl _ _).alloc _,Blk.new wr _ _⟩)
       clear hw2
       go_loopw [7] (fun iv w3=>∃ k:Nat,k≤K∧iv=.int .i64 ((p+k:Nat):Int)∧Hid (w2=w3)) (fun iv _=>(p+K-intOf iv).toNat)
       case atStart=>exact ⟨0,by omega,rfl,hiD (by first|trivial|rfl)⟩
       case round =>
        obtain ⟨k,hk,rfl,hw⟩:=hrel
        obtain rfl:=hw.out
        clear hw
        by_cases hlt:k<K
        ·obtain ⟨d,hd1,hd2⟩:=(HA.out k hk).1 hlt
         have hpl:(p:Int)+(k:Int)<(s.length:Int):=by omega
         have hix2:=str_at (n:=p+k) (l:=s) (c:=d) (by rw [← hd1,List.getElem?_drop]) w2
         rw [Int.natCast_add] at hix2
         clear hd1
         cases hLd:letterB d
         ·have hDd:digitB d=true:=by simpa [wordB,hLd] using hd2
          have HLd2:=hiD hLd
          have HDd2:=hiD hDd
          clear hd2 hLd hDd
          go_wp2_with fail
          go_at_call 74
          refine (HL.out d _).mono ?_
          rintro e w ⟨rfl,rfl⟩
          rw [HLd2.out]
          go_wp2_with fail
          go_at_call 75
          refine (HD.out d _).mono ?_
          rintro e w ⟨rfl,rfl⟩
          rw [HDd2.out]
          go_wp2_with fail
          exact ⟨⟨k+1,by omega,by go_num,hiD (by first|trivial|rfl)⟩,by simp [intOf];omega⟩
         ·have HLd2:=hiD hLd
          clear hd2 hLd
          go_wp2_with fail
          go_at_call 74
          refine (HL.out d _).mono ?_
          rintro e w ⟨rfl,rfl⟩
          rw [HLd2.out]
          go_wp2_with fail
          exact ⟨⟨k+1,by omega,by go_num,hiD (by first|trivial|rfl)⟩,by simp [intOf];omega⟩
        ·obtain rfl:k=K:=by omega
         by_cases hpl2:p+k<s.length
         ·obtain ⟨d,hd1,hd2⟩:=(HA.out k hk).2 rfl (by simp;omega)
          have hpl:(p:Int)+(k:Int)<(s.length:Int):=by omega
          have hix2:=str_at (n:=p+k) (l:=s) (c:=d) (by rw [← hd1,List.getElem?_drop]) w2
          rw [Int.natCast_add] at hix2
          have hLD:letterB d=false∧digitB d=false:=by simpa [wordB] using hd2
          have HLd2:=hiD hLD.1
          have HDd2:=hiD hLD.2
          clear hd1 hd2 hLD
          go_wp2_with fail
          go_at_call 74
          refine (HL.out d _).mono ?_
          rintro e w ⟨rfl,rfl⟩
          rw [HLd2.out]
          go_wp2_with fail
          go_at_call 75
          refine (HD.out d _).mono ?_
          rintro e w ⟨rfl,rfl⟩
          rw [HDd2.out]
          go_wp2_with fail
          go_meet
          case rel=>exact ⟨by rw [HKN.out.2];go_num,hiD (by rw [HKN.out.1];exact HW2.out)⟩
         ·have hpl:¬ (p:Int)+(k:Int)<(s.length:Int):=by omega
          go_wp2_with fail
          go_meet
          case rel=>exact ⟨by rw [HKN.out.2];go_num,hiD (by rw [HKN.out.1];exact HW2.out)⟩
     case rest =>
      obtain ⟨rfl,hq⟩:=hcut
      have HMC:=hiD (HM.out.trans hq.out.1)
      have HOC:=hiD (hq.out.1.ownsRow HO.out (fun _ _ f=>f))
      have HB0C:=hiD (HB0.out.mods hq.out.1 (fun f=>f))
      have HQC:=hiD hq.out.2
      have HO2:=HO
      have HM0:=HM
      have HBL:Hid (W.heap.size<wr.heap.size):=hiD HB0.out.lt
      clear hq HO HB0 HM hix
      have hs2:(⟨s.toArray⟩:ByteArray).extract p (p+kk.2)=⟨((s.drop p).take kk.2).toArray⟩:=by
       rw [ByteArray.extract_mk]
       congr 3
       omega
      have HS2:=hiD hs2
      have hkn:kk.2≤s.length-p:=by rw [HKK.out];have:=nextP_le (c::s.drop (p+1));rw [← HDR.out] at this ⊢;simpa using this
      have HTF:Hid (kk.2≠0→TF ⟨kk.1,(s.drop p).take kk.2,p⟩):=hiD (by rw [HKK.out,HDR.out];exact next_tf c _ p)
      have HY2:Hid ((if kk.2=0 then some (.error (3,(p:Int))) else if acc.length=1500 then some (.error (4,(p:Int))) else match lexF f1 ((s.drop p).drop kk.2) (p+kk.2) (acc.length+1) with
       | some (.ok t)=>some (.ok (⟨kk.1,(s.drop p).take kk.2,p⟩::t))
       | x=>x)=some y):=hiD (by
       rw [HDR.out,HKK.out]
       exact HY.out)
      clear hs2 HY HKK
      obtain ⟨kk,kn⟩:=kk
      simp only at HTF HY2 hkn HS2 HQC ⊢
      obtain ⟨oa,oc,rfl⟩:=lex_form HOC.out
      have b00:=HB0C.out.cell (i:=0) rfl
      have b01:=HB0C.out.cell (i:=1) rfl
      have g00:=HB0C.out.free 0
      have g01:=HB0C.out.free 1
      by_cases h0:kn=0
      ·subst h0
       obtain rfl:y=.error (3,(p:Int)):=(Option.some.inj HY2.out).symm
       clear HY2
       go_wp2
       have hbk:=blk_put (ds:=[.int .i64 3,.int .i64 p]) (blk_put (ds:=[.int .i64 3,.int .i64 0]) HB0C.out 0 (.int .i64 3) rfl) 1 (.int .i64 p) rfl
       have q0:=hbk.cell (i:=0) rfl
       have q1:=hbk.cell (i:=1) rfl
       refine bodyPost_ret (v:=.tuple #[.slice none 0 0,.agg #[.int .i64 3,.int .i64 p]]) (by simp [results,Tryz.results41,go_sem,q0,q1]) rfl ?_
       exact ⟨rfl,by omega,HMC.out.trans' ((mods_put wc W.heap.size 0 _).trans (mods_put _ W.heap.size 1 _)) (by rintro k rfl hk;omega)⟩
      have h0i:((p:Int)+(kn:Int)==(p:Int))=false:=by simp;omega
      by_cases h15:acc.length=1500
      ·have hy3:=HY2.out
       rw [if_neg h0,if_pos h15] at hy3
       obtain rfl:y=.error (4,(p:Int)):=(Option.some.inj hy3).symm
       have h15i:1500≤(acc.length:Int):=by omega
       clear HY2 hy3 h15 h0
       go_wp2
       have hbk:=blk_put (ds:=[.int .i64 4,.int .i64 p]) (blk_put (ds:=[.int .i64 4,.int .i64 0]) HB0C.out 0 (.int .i64 4) rfl) 1 (.int .i64 p) rfl
       have q0:=hbk.cell (i:=0) rfl
       have q1:=hbk.cell (i:=1) rfl
       refine bodyPost_ret (v:=.tuple #[.slice none 0 0,.agg #[.int .i64 4,.int .i64 p]]) (by simp [results,Tryz.results41,go_sem,q0,q1]) rfl ?_
       exact ⟨rfl,by omega,HMC.out.trans' ((mods_put wc W.heap.size 0 _).trans (mods_put _ W.heap.size 1 _)) (by rintro k rfl hk;omega)⟩
      have hy3:=HY2.out
      rw [if_neg h0,if_neg h15] at hy3
      have HY:=hiD hy3
      have hon3:¬ 1500≤(acc.length:Int):=by have:=HN.out;omega
      have HN15:=hiD h15
      have HK0:=hiD h0
      have HTF2:=hiD (HTF.out h0)
      have t0:=HQC.out.cell (i:=0) rfl
      have t1:=HQC.out.cell (i:=1) rfl
      have t2:=HQC.out.cell (i:=2) rfl
      have tf1:=HQC.out.free 1
      have tlt:=HQC.out.lt
      have hpl1:(p:Int)+(kn:Int)≤(s.length:Int):=by omega
      clear hy3 h0 h15 HY2 HTF b00 b01 g00 g01
      obtain ⟨tx,htx⟩:∃ tx,tx=(s.drop p).take kn:=⟨_,rfl⟩
      rw [← htx] at HS2 HTF2 HY
      have HTX:=hiD htx
      clear htx
      have HWT:=hiD (mods_put wc wr.heap.size 1 (.string ⟨tx.toArray⟩))
      have HQ2:=hiD (blk_put (ds:=[.int .i64 kk,.string ⟨tx.toArray⟩,.int .i64 p]) HQC.out 1 (.string ⟨tx.toArray⟩) rfl)
      have HOQ:=hiD (HWT.out.ownsRow HOC.out (fun k hk e=>by have:=(HO2.out.lt k hk).2;omega))
      go_upto_region 34 with (fail)
      rw [HS2.out]
      obtain ⟨wt,hwt⟩:∃ wt,wt=wc.setCell ⟨wr.heap.size,1,none⟩ (.string ⟨tx.toArray⟩):=⟨_,rfl⟩
      rw [← hwt] at HWT HQ2 HOQ ⊢
      have HMT:=hiD (HMC.out.trans' HWT.out (by rintro k rfl hk;have:=(HM0.out).size;omega))
      have HB0T:=hiD (HB0C.out.mods HWT.out (by have:=HM0.out.size;have:=HB0C.out.lt;have:=HBL.out;omega))
      have t0:=HQ2.out.cell (i:=0) rfl
      have t1:=HQ2.out.cell (i:=1) rfl
      have t2:=HQ2.out.cell (i:=2) rfl
      clear hwt tf1 tlt
      go_wp2_with (at_builtin;refine wpList_append_own_at _ rfl _ _ 88 rfl (W.heap.size+1) 95 i0 _ 3 32 Tryz.underlying88 HI.out.1 HI.out.2.1 HI.out.2.2.1 HI.out.2.2.2 rfl (by decide) (.slice oa acc.length oc) acc.length (tcells acc) rfl (HOQ.out.alloc _) ⟨wt.heap.size,0,none⟩ 1 1 [.int .i64 kk,.string ⟨tx.toArray⟩,.int .i64 p] rfl rfl (three_new _ _ _ _ _) (three_one _ _ _) (by have:=HN.out;unfold maxLen;omega) (by have:=HN.out;omega) (by have:=HMT.out.size;have:=HB0T.out.lt;simp;omega) ?_;intro v' w5 hown hgrow hnil hloc;have HOW:=hiD hown;have HGR:Hid ((wt.alloc (.cells #[.int .i64 kk,.string ⟨tx.toArray⟩,.int .i64 p] 95)).grownBy w5 (Value.slice oa acc.length oc).ownBlock):=hiD hgrow;clear hown hgrow hnil hloc;refine Hid.out ?_)
      refine hiD ?_
      obtain ⟨qa,qc,rfl⟩:=lex_form HOW.out
      go_wp2_with fail
      have hdd:(s.drop p).drop kn=s.drop (p+kn):=by rw [List.drop_drop]
      have hy4:=HY.out
      rw [hdd] at hy4
      have hpk:0<kn:=by have:=HK0.out;omega
      have htok:(⟨kk,tx,p⟩:Tok).text.length≤10000000∧TF ⟨kk,tx,p⟩:=by
       refine ⟨?_,HTF2.out⟩
       show tx.length≤_
       rw [HTX.out,List.length_take]
       omega
      have hown2:w5.ownsRow (W.heap.size+1) 95 3 (.slice qa (acc.length+1) qc) (acc++[(⟨kk,tx,p⟩:Tok)]).length (tcells (acc++[(⟨kk,tx,p⟩:Tok)])):=by
       rw [tcells_append]
       simpa [str] using HOW.out
      have hgm:=Mods.of_grownBy HGR.out (S:=fun k=>(Value.slice oa acc.length oc).ownBlock=some k) (fun k hk _=>hk)
      have hm5:Mods None W w5:=(HMT.out.alloc _).trans' hgm (fun k hk hw=>by have:=(HOQ.out.lt k hk).1;omega)
      have hb5:Blk w5 W.heap.size [.int .i64 0,.int .i64 0] 40:=(HB0T.out.alloc _).mods hgm (fun e=>by have:=(HOQ.out.lt _ e).1;omega)
      have hn5:acc.length+1≤1500:=by have:=HN.out;have:=HN15.out;omega
      cases hz:lexF f1 (s.drop (p+kn)) (p+kn) (acc.length+1) with
      | none=>rw [hz] at hy4;cases hy4
      | some z =>
       rw [hz] at hy4
       have hyz:lexTo acc y=lexTo (acc++[(⟨kk,tx,p⟩:Tok)]) z:=by
        cases z with
        | error e=>cases hy4;rfl
        | ok t =>
         cases hy4
         simp only [lexTo,List.append_assoc,List.cons_append,List.nil_append]
       refine ⟨⟨p+kn,acc++[(⟨kk,tx,p⟩:Tok)],f1,z,by go_num,by omega,by simpa using hz,hyz,hown2,hm5,HD.out.append htok,by simpa using hn5,hb5⟩,?_⟩
       simp only [intOf]
       omega
  ·obtain rfl:p=s.length:=by omega
   have hpi:¬ (s.length:Int)<(s.length:Int):=by omega
   rw [List.drop_length] at hy
   simp only [lexF] at hy
   obtain rfl:=(Option.some.inj hy).symm
   clear hy
   obtain ⟨oa,oc,rfl⟩:=lex_form HO.out
   obtain ⟨-,f01,f02⟩:=(HFM.out wr HM.out).1
   have hflt:=World.block_lt_of_cell? wr _ f01
   have b00:=HB0.out.cell (i:=0) rfl
   have b01:=HB0.out.cell (i:=1) rfl
   have g00:=HB0.out.free 0
   have g01:=HB0.out.free 1
   have hblt:=HB0.out.lt
   simp only at hflt hblt
   go_wp2_with fail
   go_region_law (first|((refine step_append_at rfl (.tmp 137) (.tmp 141) 88 rfl (W.heap.size+1) 95 i0 _ 3 32 Tryz.underlying88 HI.out.1 HI.out.2.1 HI.out.2.2.1 HI.out.2.2.2 rfl (by decide) (.slice oa acc.length oc) acc.length (tcells acc) (by simp [Act.eval,Act.put]) (HO.out.alloc _) ⟨wr.heap.size,0,none⟩ 1 1 [.int .i64 4,.string ⟨#[]⟩,.int .i64 (s.length:Int)] (by simp [Act.eval,Act.put]) rfl (three_new _ _ _ _ _) (three_one _ _ _) (by have:=HN.out;unfold maxLen;omega) (by have:=HN.out;omega) (by have:=HM.out.size;simp;omega) ?_);intro v' w5 hown hgrow hloc;have HOW:=hiD hown;have hgm:=Mods.of_grownBy hgrow (S:=fun k=>(Value.slice oa acc.length oc).ownBlock=some k) (fun k hk _=>hk);have hm5:Mods None W w5:=(HM.out.alloc _).drew.trans' hgm (fun k hk hw=>by have:=(HO.out.lt k hk).1;omega);have hb5:Blk w5 W.heap.size [.int .i64 0,.int .i64 0] 40:=(HB0.out.alloc _).drew.mods hgm (fun e=>by have:=(HO.out.lt _ e).1;omega);have b50:=hb5.cell (i:=0) rfl;have b51:=hb5.cell (i:=1) rfl;have g50:=hb5.free 0;have g51:=hb5.free 1;have hlt5:=hb5.lt;obtain ⟨-,f51,f52⟩:=(HFM.out w5 hm5).1;have HM5:=hiD hm5;have HB5:=hiD hb5;clear hown hgrow hloc hgm hm5 hb5))
   all_goals
    obtain ⟨g,qc,rfl⟩:∃ g qc,v'=.slice (some ⟨g,0,none⟩) (acc.length+1) qc:=by
     rcases Go.Joins.ownsRow_form HOW.out (by omega) with ⟨g,cap,hv⟩
     exact ⟨g,cap,hv⟩
    clear f01 f02 b00 b01 g00 g01 hflt
    go_wp2
    have hbk:=blk_put (ds:=[.int .i64 0,.int .i64 (-1)]) (blk_put (ds:=[.int .i64 0,.int .i64 0]) HB5.out 0 (.int .i64 0) rfl) 1 (.int .i64 (-1)) rfl
    have q0:=hbk.cell (i:=0) rfl
    have q1:=hbk.cell (i:=1) rfl
    refine bodyPost_ret (v:=.tuple #[.slice (some ⟨g,0,none⟩) (acc.length+1) qc,.agg #[.int .i64 0,.int .i64 (-1)]]) (by simp [results,Tryz.results41,go_sem,q0,q1]) rfl ?_
    have hmf:=(mods_put w5 W.heap.size 0 (.int .i64 0)).trans (mods_put _ W.heap.size 1 (.int .i64 (-1)))
    have hmW:=HM5.out.trans' hmf (by rintro k rfl hk;omega)
    have hrow:=HOW.out
    have hlt:=hrow.lt g rfl
    have hcells:=hrow.cells (g:=g) rfl
    have htc:tcells (acc++[(⟨4,[],s.length⟩:Tok)])=tcells acc++[.int .i64 4,.string ⟨#[]⟩,.int .i64 (s.length:Int)]:=tcells_append _ _
    have hcap:acc.length+1≤qc∧qc≤9223372036854775807:=by
     rcases hrow.2 with ⟨hv,_⟩|⟨g2,cap2,cur2,hv,_,_,h3,h4,_⟩
     ·cases hv
     ·cases hv;exact ⟨h3,by unfold maxLen at h4;omega⟩
    refine ⟨g,qc,by simp,by simp;omega,hcap.2,by have:=HN.out;simp;omega,Nat.lt_of_lt_of_le hlt.2 hmf.size,?_,⟨s.length,by simp⟩,HD.out.append ⟨by simp,Or.inr (Or.inr (Or.inr ⟨rfl,rfl⟩))⟩,hmW⟩
    intro i t ht
    have h3:=tcells_at _ i t ht
    rw [htc] at h3
    have key:∀ j u,(tcells acc++[.int .i64 4,.string ⟨#[]⟩,.int .i64 (s.length:Int)])[j]?=some u→((w5.setCell ⟨W.heap.size,0,none⟩ (.int .i64 0)).setCell ⟨W.heap.size,1,none⟩ (.int .i64 (-1))).cell? ⟨g,j,none⟩=some u:=by
     intro j u hj
     have h5:w5.cell? ⟨g,j,none⟩=some u:=by
      have:=hcells j u hj
      cases j with
      | zero=>exact this
      | succ j=>simpa [Addr.add] using this
     exact hmf.cellOf h5 (by simp only;omega)
    rw [Nat.zero_add]
    exact ⟨key _ _ h3.1,key _ _ h3.2.1,key _ _ h3.2.2⟩
end Go.Proofs.YtdgedlhefjmcpaaGreatDoor.TreeP.R
