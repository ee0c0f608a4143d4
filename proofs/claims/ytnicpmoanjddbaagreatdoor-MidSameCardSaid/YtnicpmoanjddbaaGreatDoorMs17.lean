/- Steps out of a function: how it begins. Conditions: what is asked lies. Steps out of programs: mid's Lower. Conditions: the program lies; what Check finds is known. -/
import Derived.Test.YtnicpmoanjddbaaGreatDoorMs15
import Derived.Test.YtnicpmoanjddbaaGreatDoorMs12
import Derived.Test.YtnicpmoanjddbaaGreatDoorMs16
namespace Go.Proofs.YtnicpmoanjddbaaGreatDoor.MidP
open Go.RowKit Go.Proofs.YtnicpmoanjddbaaGreatDoor.Wo Go.Maps Go.Proofs.YtnicpmoanjddbaaGreatDoor.TreeP
set_option linter.unusedVariables false
set_option linter.unusedSimpArgs false
theorem LAt.new {W:World} {P:Nat→Prop} (hP:∀ k,P k→k<W.heap.size) (nm:List UInt8) (pr:Int) :
 LAt ((W.alloc (.map #[] 0)).alloc (.cells #[.string ⟨nm.toArray⟩,.int .i64 pr,.slice none 0 0,.slice none 0 0,.map (some W.heap.size),.int .i64 0,.int .i64 0] 89)) (W.heap.size+1) W.heap.size P (fun k=>k=W.heap.size∨k=W.heap.size+1) nm pr w00:=by
 have hb:Blk ((W.alloc (.map #[] 0)).alloc (.cells #[.string ⟨nm.toArray⟩,.int .i64 pr,.slice none 0 0,.slice none 0 0,.map (some W.heap.size),.int .i64 0,.int .i64 0] 89)) (W.heap.size+1) [.string ⟨nm.toArray⟩,.int .i64 pr,.slice none 0 0,.slice none 0 0,.map (some W.heap.size),.int .i64 0,.int .i64 0] 89:=by
  have:=Blk.new (W.alloc (.map #[] 0)) #[.string ⟨nm.toArray⟩,.int .i64 pr,.slice none 0 0,.slice none 0 0,.map (some W.heap.size),.int .i64 0,.int .i64 0] 89
  simpa using this
 refine ⟨⟨.slice none 0 0,.slice none 0 0,[],hb,World.ownsRow_nil _ _ _ _,World.ownsRow_nil _ _ _ _,(fun i x hx=>by simp [w00] at hx),(fun k hk=>by cases hk),(fun k hk=>by cases hk)⟩,⟨0,[],(NameMap.new W _).mods (S:=None) ((Mods.refl _ _).alloc _) (fun f=>f),Nat.le_refl _,fun x=>rfl⟩,Or.inr rfl,⟨Or.inl rfl,by omega⟩,fun k hk=>?_,fun k hk hp=>?_,fun k hp=>?_⟩
 · simp
   omega
 · have:=hP k hp
   omega
 · have:=hP k hp
   simp
   omega
theorem LS.put {W0 W:World} {P0 M0 P M:Nat→Prop} {b mb:Nat} {nm:List UInt8} {pr:Int} {w:Lw} (h:LS W0 P0 M0 b mb nm pr W P M w) (x:List UInt8) (k:Int) (hx:nmOk x) (hz:w.sz<1000000) :
 ∃ w3,(Instr.mapUpdate 87 (.map (some mb)) (.string ⟨x.toArray⟩) (.int .i64 k)).run Tryz.prog W=.ok () w3∧LS W0 P0 M0 b mb nm pr w3 P M { w with names:=putN w.names x k }:=by
 obtain ⟨n,F,g1,g2,g3⟩:=h.lat.names
 obtain ⟨w3,hput,hnm,hm3⟩:=g1.put Tryz.underlying87 x (by unfold nmOk at hx;unfold maxLen;omega) (.int .i64 k) (by have:=sz_names w;unfold maxLen;omega)
 obtain ⟨e1,e2⟩:=h.lat.named g3 x k hm3 hnm g2
 exact ⟨w3,hput,e1,h.ext.trans e2,h.up,h.back,h.off0⟩
theorem LS.noned {W0 W:World} {P0 M0 P M:Nat→Prop} {b mb:Nat} {nm:List UInt8} {pr:Int} {w:Lw} (h:LS W0 P0 M0 b mb nm pr W P M w) (k:Int):LS W0 P0 M0 b mb nm pr (W.setCell ⟨b,6,none⟩ (.int .i64 k)) P M { w with none:=k }:=by
 obtain ⟨e1,e2⟩:=h.lat.labeled 6 (.int .i64 k) { w with none:=k } rfl rfl rfl (Or.inr ⟨rfl,rfl,rfl⟩)
 exact ⟨e1,h.ext.trans e2,h.up,h.back,h.off0⟩
theorem LS.nm {W0 W:World} {P0 M0 P M:Nat→Prop} {b mb:Nat} {nm:List UInt8} {pr:Int} {w:Lw} (h:LS W0 P0 M0 b mb nm pr W P M w) {v:Value} {N:Nm} (hn:NmAt W0 (fun k=>¬ P0 k) v N):NmAt W (fun k=>¬ P k) v N :=
 hn.mods (h.ext.mods.mono fun k _ hk=>hk.elim (fun f=>f.elim) (h.off0 k)) (fun k _ hk hp=>hk (h.up k hp))
theorem LS.made {W0 W:World} {P0 M0 P M S:Nat→Prop} {b mb:Nat} {nm:List UInt8} {pr:Int} {w:Lw} (h:LS W0 P0 M0 b mb nm pr W P M w) (hS:∀ k,S k→k<W0.heap.size∧¬ P0 k∧¬ M0 k) :
 ∃ ta tc sa sc,W.cell? ⟨b,0,none⟩=some (.string ⟨nm.toArray⟩)∧W.cell? ⟨b,1,none⟩=some (.int .i64 pr)∧W.cell? ⟨b,2,none⟩=some (.slice ta w.types.length tc)∧W.cell? ⟨b,3,none⟩=some (.slice sa w.steps.length sc)∧b<W.heap.size∧IntsAt W S (.slice ta w.types.length tc) w.types∧StpsAt W S (.slice sa w.steps.length sc) w.steps:=by
 have hSM:∀ k,S k→¬ M k:=fun k hk hm=>(hS k hk).2.2 (h.ext.back k (hS k hk).1 hm)
 have hSP:∀ k,S k→¬ P k:=fun k hk hp=>(hS k hk).2.1 (h.back k (hS k hk).1 hp)
 obtain ⟨tv,sv,cs,e1,e2,e3,e4,e5,e6⟩:=h.lat.blk
 obtain ⟨ta,tc,rfl⟩:=low_form e2
 obtain ⟨sa,sc,rfl⟩:=low_form e3
 refine ⟨ta,tc,sa,sc,e1.cell (i:=0) rfl,e1.cell (i:=1) rfl,e1.cell (i:=2) rfl,e1.cell (i:=3) rfl,e1.lt,low_ints e2 (fun k hk hs=>hSM k hs (e5 k hk).1),?_⟩
 rcases e3.2 with ⟨hv,h0⟩|⟨g,cap,cur,hv,h3,h4,h5,h6,h7,h8⟩
 · have hnil:w.steps=[]:=List.eq_nil_of_length_eq_zero h0
   rw [hv,hnil]
   exact ⟨none,0,rfl,Nat.zero_le _,Nat.zero_le _,fun _=>rfl,fun i s hs=>by simp at hs⟩
 · refine ⟨_,cap,hv,h5,h6,(fun h=>by cases h),fun i s hs=>?_⟩
   obtain ⟨av,k1,k2⟩:=e4 i s hs
   have hc:∀ k u,(stpL s av)[k]?=some u→W.cell? ⟨g,0+i*10+k,none⟩=some u:=fun k u hk=>by
    have:=e3.cells (g:=g) (by rw [hv];rfl) (i*10+k) u (k1 k u hk)
    rw [add_plain] at this
    rw [Nat.add_assoc]
    exact this
   exact ⟨g,0,av,rfl,fun hs=>hSM g hs (e6 g (by rw [hv];rfl)).1,⟨hc 0 _ rfl,hc 1 _ rfl,hc 2 _ rfl,hc 3 _ rfl,hc 4 _ rfl,hc 5 _ rfl,hc 6 _ rfl,hc 7 _ rfl,hc 8 _ rfl,hc 9 _ rfl⟩,k2.mods (Mods.refl _ _) (fun k _ hs=>hSP k hs)⟩
theorem low_fs {w:World} {fa:Option Addr} {fn fc:Nat} {L:List TreeP.Fn} (h:FsAt w None (.slice fa fn fc) L):fn=L.length∧fn≤fc∧fc≤maxLen∧∀ i,i<fn →
 ∃ x g o pa pn pc qa qn qc vq,fa=some ⟨g,o,none⟩∧L[i]?=some x∧w.cell? ⟨g,o+i*4,none⟩=some (.string ⟨x.name.toArray⟩)∧w.cell? ⟨g,o+i*4+1,none⟩=some (.int .i64 x.at_)∧w.cell? ⟨g,o+i*4+2,none⟩=some (.slice pa pn pc)∧w.cell? ⟨g,o+i*4+3,none⟩=some (.slice qa qn qc) ∧
   pn=x.params.length∧NmAt w None (.slice pa pn pc) x.params∧RowAt w None 143 7 (.slice qa qn qc) x.body.length vq∧StsAt w None x.body vq:=by
 obtain ⟨fa',fn',fc',e,hfn,hfc,hfm,hf0,hfcell⟩:=h
 obtain ⟨rfl,rfl,rfl⟩:=Value.slice.inj e
 refine ⟨hfn,hfc,hfm,fun i hi=>?_⟩
 have hi2:i<L.length:=by omega
 obtain ⟨g,o,p,q,vq,e1,e2,e3,e4,e5,e6,e7,e8,e9⟩:=hfcell i L[i] (List.getElem?_eq_getElem hi2)
 obtain ⟨pa,pc,rfl⟩:=low_form e7.1
 obtain ⟨qa,qc,rfl⟩:=low_form e8.1
 exact ⟨L[i],g,o,pa,_,pc,qa,_,qc,vq,e1,List.getElem?_eq_getElem hi2,e3,e4,e5,e6,rfl,nm_of_row e7.1 (fun _ _ f=>f),e8,e9⟩
theorem low_mk (w:World):(Instr.makeMap 87 none).run Tryz.prog w=.ok (.map (some w.heap.size)) (w.alloc (.map #[] 0)):=by
 simp [Instr.makeMap,run_underlying Tryz.underlying87]
structure PSt (W:World) (L:List TreeP.Fn) (pb:Nat) (i:Nat) (v:Value) (wr:World):Prop where
 mods:Mods None W wr
 blk:Blk wr pb [v] 28
 out:OutF wr W.heap.size pb v ((L.take i).map lowF)
 lo:W.heap.size≤pb
def LowerP (W:World) (L:List TreeP.Fn) (e:Ending) (w:World):Prop:=∃ pb lv,e=.returned (.tuple #[.pointer (some ⟨pb,0,none⟩),.nilIface])∧w.cell? ⟨pb,0,none⟩=some lv∧FmsAt w None lv (lowP L)∧Mods None W w
set_option maxRecDepth 100000 in
set_option maxHeartbeats 1000000 in
theorem lower_ok (L:List TreeP.Fn) (v:Value) (W:World) (hL:FsAt W None v L) (hok:∀ f∈L,LowOk f) (hlen:L.length≤1000000) (hC:Calls Tryz.prog 15 #[v] W fun e w=>e=.returned .nilIface∧Mods None W w) :
 Calls Tryz.prog 14 #[v] W (LowerP W L):=by
 obtain ⟨i0,hi0,hz0,hz1,hz2⟩:=low_info fn_info
 have HI:=hiD (And.intro hi0 (And.intro hz0 (And.intro hz1 hz2)))
 obtain ⟨fa,n,fc,rfl,hn,hnc,hcm,-,-⟩:=id hL
 have HL:=hiD hL
 have HOK:=hiD (And.intro hok hlen)
 have HN:=hiD hn
 have hn1:n≤1000000:=by omega
 unfold maxLen at hcm
 clear hL hok hlen hi0 hz0 hz1 hz2 hn
 go_enter Tryz.func14,Tryz.ntmps14
 go_wp2_with fail
 refine hC.mono ?_
 rintro e w1 ⟨rfl,hm1⟩
 have HM1:=hiD hm1
 clear hm1 hC
 go_wp2_with fail
 obtain ⟨pb,hpb⟩:∃ pb,pb=w1.heap.size:=⟨_,rfl⟩
 rw [← hpb]
 have HS0:Hid (PSt W L pb 0 (.slice none 0 0) (w1.alloc (.cells #[.slice none 0 0] 28))):=hiD ⟨HM1.out.alloc _,by rw [hpb];exact Blk.new w1 _ _,by simpa using OutF.none_ _ _ _,by rw [hpb];exact HM1.out.size⟩
 clear hpb HM1
 go_loopw [20] (fun v20 wr=>∃ i v,i≤n∧v20=.int .i64 ((i:Nat):Int)∧Hid (PSt W L pb i v wr)) (fun v _=>(n-intOf v).toNat)
 case atStart=>exact ⟨0,_,Nat.zero_le _,rfl,HS0⟩
 case round =>
  clear HS0
  obtain ⟨w2,rfl⟩:∃ w2:World,w2=wr:=⟨_,rfl⟩
  obtain ⟨i,ov,hi,rfl,HC⟩:=hrel
  have hil:((L.take i).map lowF).length=i:=by
   rw [List.length_map,List.length_take]
   have:=HN.out
   omega
  obtain ⟨oa,oc,hov⟩:=HC.out.out.form
  rw [hil] at hov
  subst hov
  have HIL:=hiD hil
  clear hil
  by_cases hlt:i<n
  · have hpi:(i:Int)<(n:Int):=by omega
    obtain ⟨x,g,o,pa,pn,pc,qa,qn,qc,vq,rfl,hxi,k0,k1,k2,k3,hpn,hnm,hrow,hsts⟩:=(low_fs HL.out).2.2.2 i hlt
    have k0:=HC.out.mods.cellOf k0 (fun f=>f)
    have k1:=HC.out.mods.cellOf k1 (fun f=>f)
    have k2:=HC.out.mods.cellOf k2 (fun f=>f)
    have k3:=HC.out.mods.cellOf k3 (fun f=>f)
    have hgl:=World.block_lt_of_cell? _ _ k0
    have hmem:=List.mem_of_getElem? hxi
    obtain ⟨hx1,hx2,hx3⟩:=HOK.out.1 x hmem
    have hpn1:pn≤400000:=by omega
    obtain ⟨WB,hWB⟩:∃ WB,WB=w2.alloc (.cells #[.string ⟨x.name.toArray⟩,.int .i64 x.at_,.slice pa pn pc,.slice qa qn qc] 84):=⟨_,rfl⟩
    have hmB:Mods None w2 WB:=by rw [hWB];exact (Mods.refl _ _).alloc _
    have hbB:Blk WB w2.heap.size [.string ⟨x.name.toArray⟩,.int .i64 x.at_,.slice pa pn pc,.slice qa qn qc] 84:=by rw [hWB];exact Blk.new w2 _ _
    have hsB:WB.heap.size=w2.heap.size+1:=by rw [hWB];simp
    obtain ⟨fb,hfb⟩:∃ fb,fb=w2.heap.size:=⟨_,rfl⟩
    rw [← hfb] at hsB hbB
    obtain ⟨b,hb⟩:∃ b,b=fb+1+1:=⟨_,rfl⟩
    obtain ⟨mb,hmb⟩:∃ mb,mb=fb+1:=⟨_,rfl⟩
    obtain ⟨WA,hWA⟩:∃ WA,WA=(WB.alloc (.map #[] 0)).alloc (.cells #[.string ⟨x.name.toArray⟩,.int .i64 (pn:Int),.slice none 0 0,.slice none 0 0,.map (some mb),.int .i64 0,.int .i64 0] 89):=⟨_,rfl⟩
    have hmA:Mods None WB WA:=by rw [hWA];exact ((Mods.refl _ _).alloc _).alloc _
    have hsA:WA.heap.size=fb+3:=by rw [hWA];simp;omega
    obtain ⟨P,hPd⟩:∃ P:Nat→Prop,P=fun k=>k<WB.heap.size∧¬ (k=pb∨(Value.slice oa i oc).ownBlock=some k):=⟨_,rfl⟩
    obtain ⟨M,hMd⟩:∃ M:Nat→Prop,M=fun k=>k=WB.heap.size∨k=WB.heap.size+1:=⟨_,rfl⟩
    have hlat:LAt WA b mb P M x.name (pn:Int) w00:=by
        have:=LAt.new (W:=WB) (P:=P) (fun k hk=>by rw [hPd] at hk;exact hk.1) x.name (pn:Int)
        rw [hWA,hMd]
        rw [show mb=WB.heap.size by omega,show b=WB.heap.size+1 by omega]
        exact this
    have hpbl:pb<w2.heap.size:=HC.out.blk.lt
    have hovl:∀ k,(Value.slice oa i oc).ownBlock=some k→W.heap.size≤k∧k<w2.heap.size:=HC.out.out.lt
    have hW2:=HC.out.mods.size
    have hlo:=HC.out.lo
    have hPT:∀ k,k<W.heap.size→¬ P k→None k:=fun k hk hp=>hp (by
        rw [hPd]
        exact ⟨by omega,fun e=>e.elim (fun e=>by omega) (fun e=>by have:=(hovl k e).1;omega)⟩)
    have hPfb:P fb:=by
        rw [hPd]
        exact ⟨by omega,fun e=>e.elim (fun e=>by omega) (fun e=>by have:=(hovl fb e).2;omega)⟩
    have hWWA:Mods None W WA:=(HC.out.mods.trans hmB).trans hmA
    have HLS:=hiD (LS.begin hlat)
    have HX:=hiD (And.intro (hnm.mods (T:=fun k=>¬ P k) hWWA hPT) (And.intro (hrow.mods (T:=fun k=>¬ P k) hWWA hPT) (StsAt.modsTo (T:=fun k=>¬ P k) hWWA hPT _ _ hsts)))
    have HXO:=hiD (And.intro hx1 (And.intro hx2 hx3))
    have HF:=hiD (And.intro (hbB.mods hmA (fun f=>f)) hPfb)
    have HPN:=hiD hpn
    have HXI:=hiD hxi
    have HM2A:=hiD (And.intro (hmB.trans hmA) (And.intro hsA hfb))
    have HPM:=hiD (And.intro hPd hMd)
    have HBS:=hiD (And.intro hsB (And.intro hpbl hovl))
    have hmk:=low_mk WB
    rw [hWB] at hmk
    clear hpn hbB hmA hmB hlat hPT hPfb hWWA hnm hrow hsts hx1 hx2 hx3 hxi hsA hPd hMd hsB hpbl hovl hW2 hlo hmem
    go_wp2_with fail
    rw [← hWB,← hfb,← hb,← hmb,← hWA]
    clear hWB hWA hmb hb hfb k0 k1 k2 k3 hmk
    go_loopw [36] (fun v36 wr=>∃ j P' M',j≤pn∧v36=.int .i64 ((j:Nat):Int)∧Hid (LS WA P M b mb x.name (pn:Int) wr P' M' (parsL (x.params.take j) w00))) (fun v _=>(pn-intOf v).toNat)
    case atStart=>exact ⟨0,P,M,Nat.zero_le _,rfl,HLS⟩
    case round =>
        clear HLS
        obtain ⟨w3,rfl⟩:∃ w3:World,w3=wr:=⟨_,rfl⟩
        obtain ⟨j,P1,M1,hj,rfl,HS⟩:=hrel
        by_cases hjl:j<pn
        · have hpj:(j:Int)<(pn:Int):=by omega
          have hnm:=HS.out.nm HX.out.1
          obtain ⟨a',n',c',hv',hn',hnc',hcm',-,hcell⟩:=id hnm
          obtain ⟨rfl,rfl,rfl⟩:=Value.slice.inj hv'
          obtain ⟨p,hpj2⟩:∃ p,x.params[j]?=some p:=⟨_,List.getElem?_eq_getElem (by rw [← HPN.out];exact hjl)⟩
          obtain ⟨pg,po,rfl,-,d0,d1⟩:=hcell j p hpj2
          have hpgl:=World.block_lt_of_cell? _ _ d0
          obtain ⟨px,pt⟩:=p
          have hpok:nmOk px:=HXO.out.1 _ (List.mem_of_getElem? hpj2)
          obtain ⟨wi,hwi⟩:∃ wi,wi=parsL (x.params.take j) w00:=⟨_,rfl⟩
          have HS1:=hiD HS.out
          rw [← hwi] at HS1
          have hsz:wi.sz≤800000:=by
           rw [hwi,pars_sz,List.length_take]
           have h1:=HXO.out.2.2
           have h0:w00.sz=0:=rfl
           omega
          have HDN:Hid (parsL (x.params.take (j+1)) w00=(nameL px pt wi).2):=hiD (by
           rw [List.take_add_one,hpj2]
           show parsL (x.params.take j++[(px,pt)]) w00=_
           rw [parsL_snoc,hwi])
          have hjm:(j:Int)<9223372036854775807:=by omega
          obtain ⟨W4,hW4⟩:∃ W4,W4=w3.alloc (.cells #[.string ⟨px.toArray⟩,.int .i64 pt] 91):=⟨_,rfl⟩
          have hm4:Mods None w3 W4:=by rw [hW4];exact (Mods.refl _ _).alloc _
          have hb4:Blk W4 w3.heap.size [.string ⟨px.toArray⟩,.int .i64 pt] 91:=by rw [hW4];exact Blk.new w3 _ _
          have hno:¬ M1 w3.heap.size:=fun e=>by have:=HS1.out.lat.old _ e;omega
          have HS4:=hiD ((HS1.out.quiet hm4).quiet (Mods.refl None W4).drew)
          have HB4:=hiD hb4
          have HNO:=hiD hno
          have HSZ:=hiD (And.intro hsz hpok)
          have b4:W4.cell? ⟨b,4,none⟩=some (.map (some mb)):=(HS4.out.cells).1
          have bl:b<W4.heap.size:=(HS4.out.cells).2.2.2
          have q0:=hb4.cell (i:=0) rfl
          have q1:=hb4.cell (i:=1) rfl
          have ql:=hb4.lt
          unfold TreeP.str at d0
          have HPZ:Hid ((placeL pt wi).2.sz<1000000):=hiD (by
           have h1:(placeL pt wi).2.types.length=wi.types.length+1:=by simp [placeL]
           have h2:(placeL pt wi).2.sz=(placeL pt wi).2.types.length+wi.steps.length+wi.labels+wi.names.length:=rfl
           have h3:wi.sz=wi.types.length+wi.steps.length+wi.labels+wi.names.length:=rfl
           omega)
          clear hnm hcell hv' hn' hnc' hcm' hpj2 hwi hsz hm4 hb4 hno hpok HS
          go_wp2_with fail
          rw [← hW4]
          clear hW4 d0 d1
          go_region_law (go_simp;go_at_call 32;refine (place_any HS4.out.lat pt (by have:=sz_types wi;have:=HSZ.out.1;omega)).mono ?_;intro e w5 hk;have hs5:=HS4.out.after hk;obtain ⟨P5',M5',rfl,-,k2,-,-⟩:=hk;obtain ⟨P5,M5,-,hs5⟩:=hs5;obtain ⟨w6,hput,hs6⟩:=hs5.put px (wi.types.length:Int) HSZ.out.2 HPZ.out;have HB5:=hiD (HB4.out.drew.mods k2.mods (fun e=>e.elim (fun f=>f) HNO.out));have r0:=HB5.out.cell (i:=0) rfl;have r1:=HB5.out.cell (i:=1) rfl;have rl:=HB5.out.lt;have b5:w5.cell? ⟨b,4,none⟩=some (.map (some mb)):=hs5.cells.1;have bl5:b<w5.heap.size:=hs5.cells.2.2.2;have HS6:=hiD hs6;clear hs5 hs6 k2)
          all_goals
           have HSN:Hid (LS WA P M b mb x.name (pn:Int) w6 P5 M5 (parsL (x.params.take (j+1)) w00)):=hiD (by rw [HDN.out];exact HS6.out)
           clear q0 q1 r0 r1 b5 b4 hput
           go_wp2_with fail
           go_roundw
           case rel=>exact ⟨j+1,P5,M5,by omega,by go_num,HSN⟩
           case measure=>simp only [intOf];omega
        · obtain rfl:j=pn:=by omega
          have hpj:¬ (j:Int)<(j:Int):=by omega
          obtain ⟨wi,hwi⟩:∃ wi,wi=parsL x.params w00:=⟨_,rfl⟩
          have htk:x.params.take j=x.params:=List.take_of_length_le (by rw [← HPN.out];exact Nat.le_refl _)
          have hs1:=HS.out
          rw [htk,← hwi] at hs1
          have HS1:=hiD hs1
          have hsz:wi.sz=2*x.params.length:=by
           rw [hwi,pars_sz]
           have h0:w00.sz=0:=rfl
           omega
          obtain ⟨t1,t2,h3⟩:∃ x y,toL 1 { stp0 with code:=1 } wi=(x,y):=⟨_,_,rfl⟩
          have hhead:headL x={ t2 with none:=t1 }:=by
           have h1:headL x={ (toL 1 { stp0 with code:=1 } wi).2 with none:=(toL 1 { stp0 with code:=1 } wi).1 }:=by rw [hwi];rfl
           rw [h1,h3]
          obtain ⟨wb,hwb⟩:∃ wb,blockL x.body (headL x)=wb:=⟨_,rfl⟩
          obtain ⟨wl,hwl⟩:∃ wl,addL { stp0 with code:=8,a:=wb.none } wb=wl:=⟨_,rfl⟩
          have hlow:lowL x=wl:=by
           unfold lowL
           rw [hwb,hwl]
          have hbs:=block_sz x.body (headL x)
          rw [hwb,head_sz] at hbs
          have HZ:Hid (wi.sz<1000000∧(headL x).sz+8*stsN x.body≤900000∧wb.sz<1000000):=hiD (by
           have h1:=HXO.out.2.2
           refine ⟨by omega,?_,by omega⟩
           rw [head_sz]
           omega)
          have H3:=hiD (And.intro h3 (And.intro hwb hwl))
          have HLO:=hiD (And.intro hlow hhead)
          clear htk hs1 hwi hsz h3 hhead hwb hwl hlow hbs HS
          go_wp2_with fail
          refine (HS1.out.to 1 { stp0 with code:=1 } (StpV.bare _ rfl) HZ.out.1 H3.out.1).mono ?_
          rintro e w4 ⟨P4,M4,rfl,hs⟩
          have f0:=hs.cells.2.2.1
          have fl:=hs.cells.2.2.2
          have fz:w4.frozen? ⟨b,6,none⟩=false:=by
           obtain ⟨_,_,_,hlb,-⟩:=hs.lat.blk
           exact hlb.free 6
          have hs5:=hs.noned t1
          rw [← HLO.out.2] at hs5
          have hb5:=hs5.node HF.out.1 HF.out.2
          have g3:=hb5.cell (i:=3) rfl
          have gl:=hb5.lt
          have HS5:=hiD hs5
          clear hs hs5 hb5
          go_wp2_with fail
          refine (LS.block (block_any x.body) HS5.out HX.out.2.1 HX.out.2.2 HXO.out.2.1 (head_ok x) HZ.out.2.1 H3.out.2.1).mono ?_
          rintro e w6 ⟨P6,M6,rfl,hs⟩
          have f6:=hs.cells.2.2.1
          have fl6:=hs.cells.2.2.2
          have HS6:=hiD hs
          clear hs
          go_wp2_with fail
          refine (HS6.out.add { stp0 with code:=8,a:=wb.none } (StpV.bare _ rfl) HZ.out.2.2 H3.out.2.2).mono ?_
          rintro e w7 ⟨P7,M7,rfl,hs⟩
          have hM27:Mods None w2 w7:=HM2A.out.1.trans' hs.ext.mods (fun k hk hl=>hk.elim (fun f=>f) (fun hm=>by
           have h1:=HPM.out.2
           rw [h1] at hm
           have h2:=HBS.out.1
           have h3:=HM2A.out.2.2
           rcases hm with hm|hm <;> omega))
          obtain ⟨ta,tc,sa,sc,m0,m1,m2,m3,ml,hints,hstps⟩:=hs.made (S:=fun k=>k=pb∨(Value.slice oa i oc).ownBlock=some k) (fun k hk=>by
           have h1:=HPM.out
           have h2:=HBS.out
           have h3:=HM2A.out
           have hkl:k<w2.heap.size:=hk.elim (fun e=>by omega) (fun e=>(h2.2.2 k e).2)
           refine ⟨by omega,fun hp=>?_,fun hm=>?_⟩
           · rw [h1.1] at hp
             exact hp.2 hk
           · rw [h1.2] at hm
             rcases hm with hm|hm <;> omega)
          have hsz7:=hM27.size
          have hF7:OutF w7 W.heap.size pb (.slice oa i oc) ((L.take i).map lowF):=HC.out.out.mods (hM27.mono fun _ _ f=>f.elim)
          have hB7:Blk w7 pb [.slice oa i oc] 28:=HC.out.blk.mods hM27 (fun f=>f)
          have hW7:Mods None W w7:=HC.out.mods.trans hM27
          obtain ⟨cs,hcs1,hcs2,hcs3⟩:=hF7
          rw [HIL.out] at hcs1
          have hmA:Mods None w7 ((w7.alloc (.cells #[.string ⟨x.name.toArray⟩,.int .i64 (j:Int),.slice ta wl.types.length tc,.slice sa wl.steps.length sc] 55)).drew):=((Mods.refl _ _).alloc _).drew
          obtain ⟨tn,htn⟩:∃ tn,tn=wl.types.length:=⟨_,rfl⟩
          obtain ⟨sn,hsn⟩:∃ sn,sn=wl.steps.length:=⟨_,rfl⟩
          rw [← htn,← hsn] at hmA
          rw [← htn] at m2 hints
          rw [← hsn] at m3 hstps
          have HOA:=hiD (hmA.ownsRow hcs1 (fun k hk f=>f))
          have HRA:=hiD (hcs2.mods (T:=fun k=>k=pb∨(Value.slice oa i oc).ownBlock=some k) (hmA.mono fun _ _ f=>f.elim) (fun _ _ k=>k))
          have HNE:=hiD hcs3
          have HIN:=hiD (And.intro (hints.mods (T:=fun k=>k=pb∨(Value.slice oa i oc).ownBlock=some k) (hmA.mono fun _ _ f=>f.elim) (fun _ _ k=>k)) (hstps.mods (T:=fun k=>k=pb∨(Value.slice oa i oc).ownBlock=some k) (hmA.mono fun _ _ f=>f.elim) (fun _ _ k=>k)))
          have HBA:=hiD (hB7.mods hmA (fun f=>f))
          have HWA:=hiD (hW7.trans hmA)
          have HBZ:Hid (W.heap.size≤((w7.alloc (.cells #[.string ⟨x.name.toArray⟩,.int .i64 (j:Int),.slice ta tn tc,.slice sa sn sc] 55)).drew).heap.size):=hiD (hW7.trans hmA).size
          have hnew:=hiD (low_new w7 [.string ⟨x.name.toArray⟩,.int .i64 (j:Int),.slice ta tn tc,.slice sa sn sc] 55)
          have hone:Hid (∀ u∈[Value.string ⟨x.name.toArray⟩,.int .i64 (j:Int),.slice ta tn tc,.slice sa sn sc],u.oneCell'=true):=hiD (fun u hu=>by
           simp only [List.mem_cons,List.not_mem_nil,or_false] at hu
           rcases hu with rfl|rfl|rfl|rfl <;> rfl)
          have o0:=hB7.cell (i:=0) rfl
          have oz:=hB7.free 0
          have ol:=hB7.lt
          have HFM:Hid (lowF x=⟨x.name,(j:Int),wl.types,wl.steps⟩):=hiD (by
           unfold lowF
           rw [HLO.out.1,← HPN.out])
          have HTS:=hiD (And.intro htn hsn)
          have HTK:Hid ((L.take (i+1)).map lowF=(L.take i).map lowF++[lowF x]):=hiD (by
           rw [List.take_add_one,HXI.out]
           simp)
          have HLO2:=hiD HC.out.lo
          clear hs hM27 hints hstps hsz7 hB7 hW7 hcs1 hcs2 hcs3 hmA htn hsn f6 f0 g3
          go_wp2_with fail
          go_region_law (refine step_append_at rfl (.tmp 72) (.tmp 77) 22 rfl W.heap.size 55 i0 _ 4 72 Tryz.underlying22 HI.out.1 HI.out.2.1 HI.out.2.2.1 HI.out.2.2.2 rfl (by decide) (.slice oa i oc) i cs (by simp [Act.eval,Act.put]) HOA.out ⟨w7.heap.size,0,none⟩ 1 1 [.string ⟨x.name.toArray⟩,.int .i64 (j:Int),.slice ta tn tc,.slice sa sn sc] (by simp [Act.eval,Act.put]) rfl hnew.out hone.out (by unfold maxLen;omega) (by omega) HBZ.out ?_;intro v' w8 hown hgrow hloc;have HOW:=hiD hown;have HGR:=hiD (And.intro hgrow hloc);have HB8:=hiD (HBA.out.mods (grew_of hgrow hloc).mods (fun e=>HNE.out _ e rfl));have p0:=HB8.out.cell (i:=0) rfl;have pz:=HB8.out.free 0;have pl:=HB8.out.lt;clear hown hgrow hloc;obtain ⟨qa',qc',rfl⟩:=low_form HOW.out)
          all_goals
           have hO8:OutF w8 W.heap.size pb (.slice qa' (i+1) qc') ((L.take i).map lowF++[lowF x]):=outF_grow (v:=.slice oa i oc) (tv:=.slice ta tn tc) (sv:=.slice sa sn sc) (by rw [HIL.out];exact HOA.out) HRA.out HNE.out HBA.out.lt (by rw [HFM.out];exact HIN.out.1) (by rw [HFM.out];exact HIN.out.2) (by rw [HIL.out,HFM.out];exact HOW.out) HGR.out.1 HGR.out.2
           have hMs:Mods None W (w8.setCell ⟨pb,0,none⟩ (.slice qa' (i+1) qc')):=(HWA.out.trans' (Mods.of_grownBy (S:=fun k=>(Value.slice oa i oc).ownBlock=some k) HGR.out.1 (fun k hk _=>hk)) (fun k hk hl=>by have:=(HOA.out.lt k hk).1;omega)).setCell (p:=⟨pb,0,none⟩) (fun hl=>by have h1:=HLO2.out;have h2:pb<W.heap.size:=hl;omega) _
           have HC2:Hid (PSt W L pb (i+1) (.slice qa' (i+1) qc') (w8.setCell ⟨pb,0,none⟩ (.slice qa' (i+1) qc'))):=hiD ⟨hMs,HB8.out.set 0 _,by rw [HTK.out];exact hO8.mods (mods_put _ _ _ _),HLO2.out⟩
           clear hO8 hMs
           go_wp2_with fail
           go_roundw
           case rel=>exact ⟨i+1,_,by omega,by go_num,HC2⟩
           case measure=>simp only [intOf];omega
  · obtain rfl:i=n:=by omega
    have hpi:¬ (i:Int)<(i:Int):=by omega
    have htk:L.take i=L:=List.take_of_length_le (by rw [← HN.out];exact Nat.le_refl _)
    have hf:=HC.out.out.at_
    rw [htk] at hf
    have HF:=hiD (And.intro (HC.out.blk.cell (i:=0) rfl) (And.intro hf HC.out.mods))
    clear htk hf
    go_wp2_with fail
    exact bodyPost_ret (v:=.tuple #[.pointer (some ⟨pb,0,none⟩),.nilIface]) (by simp [results,Tryz.results14,go_sem]) rfl ⟨pb,_,rfl,HF.out.1,HF.out.2.1,HF.out.2.2⟩
end Go.Proofs.YtnicpmoanjddbaaGreatDoor.MidP
