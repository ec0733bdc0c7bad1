/- A part of the proof: NtB, Nt4, Nr17. -/
import Derived.Test.YtifkacnoiocebaaDoorNk20
import Derived.Shelf.Strings.BuilderK
set_option linter.unusedVariables false
set_option linter.unusedSimpArgs false
set_option maxRecDepth 100000
set_option maxHeartbeats 8000000
namespace Go.Proofs.YtifkacnoiocebaaDoor
open Go.RowKit
theorem Ec:Lays.n166 Tryd.prog Tryd.lays156_ren:=by
 have L:=Tryd.lays156
 exact { mixed:=L.mixed,f166:=L.f166,f240:=L.f240,f276:=L.f276,t0:=L.t0,a0:=L.a0,z0:=L.z0,v0:=L.v0,t3:=L.t3,a3:=L.a3,z3:=L.z3,v3:=L.v3,t4:=L.t4,a4:=L.a4,z4:=L.z4,v4:=L.v4,t9:=L.t9,a9:=L.a9,z9:=L.z9,v9:=L.v9,t20:=L.t20,a20:=L.a20,z20:=L.z20,v20:=L.v20,t37:=L.t37,a37:=L.a37,z37:=L.z37,v37:=L.v37,t70:=L.t70,a70:=L.a70,z70:=L.z70,v70:=L.v70,t72:=L.t72,a72:=L.a72,z72:=L.z72,v72:=L.v72,t75:=L.t75,a75:=L.a75,z75:=L.z75,v75:=L.v75,t164:=L.t164,a164:=L.a164,z164:=L.z164,v164:=L.v164 }
theorem Ed:Lays.n169 Tryd.prog Tryd.lays156_ren:=by
 have L:=Tryd.lays156
 exact { mixed:=L.mixed,f169:=L.f169,t0:=L.t0,a0:=L.a0,z0:=L.z0,v0:=L.v0,t3:=L.t3,a3:=L.a3,z3:=L.z3,v3:=L.v3,t9:=L.t9,a9:=L.a9,z9:=L.z9,v9:=L.v9,t37:=L.t37,a37:=L.a37,z37:=L.z37,v37:=L.v37,t70:=L.t70,a70:=L.a70,z70:=L.z70,v70:=L.v70,t72:=L.t72,a72:=L.a72,z72:=L.z72,v72:=L.v72,t127:=L.t127,a127:=L.a127,z127:=L.z127,v127:=L.v127 }
def oh (w:World) (B b:Nat) (l:List UInt8):Prop:=Lib.IsBuilderF 71 5 B b (Lib.byteCells l) w
theorem vI {T e:TypeId} {B b:Nat} {p:Value} {bs:List Value} {w w':World} (h:Lib.BuilderAtF T e B b p bs w) (hb:Below w.heap.size w w'):Lib.BuilderAtF T e B b p bs w':=by
 have hlt:=h.lt
 obtain⟨hB,v,hbk,hown,hne⟩:=h
 refine⟨hB,v,(hb.block b hlt).trans hbk,?_,hne⟩
 refine⟨hown.1,?_⟩
 rcases hown.2 with h | ⟨g,cap,cur,fz,h1,h2,hg,h3⟩
 ·exact .inl h
 ·exact .inr ⟨g,cap,cur,fz,h1,h2,(hb.block g (cO hg)).trans hg,h3⟩
theorem oh.below {w w':World} {B b:Nat} {l:List UInt8} (h:oh w B b l) (hb:Below w.heap.size w w'):oh w' B b l:=
 h.elim (fun h=>.inl (vI h hb)) (fun h=>.inr (vI h hb))
theorem oh.new (w:World):oh (w.alloc (.cells #[.pointer none,.slice none 0 0] 71)) w.heap.size w.heap.size []:=
 .inl ⟨Nat.le_refl _,.slice none 0 0,heap_alloc_new w _,⟨rfl,.inl ⟨rfl,rfl⟩⟩,by simp[Value.ownBlock]⟩
theorem oh.lt {w:World} {B b:Nat} {l:List UInt8} (h:oh w B b l):b<w.heap.size:=h.elim (fun h=>h.lt) (fun h=>h.lt)
theorem vJ (B b:Nat) (l s:List UInt8) (w:World) (h:oh w B b l) (hlen:l.length+s.length≤1000000) (hB:B≤w.heap.size):
  Calls Tryd.prog 23 #[.pointer (some ⟨b,0,none⟩),.string ⟨s.toArray⟩] w fun e w'=>e= .returned (.tuple #[.int .i64 (s.length:Int),.nilIface])∧oh w' B b (l++s)∧Below B w w'∧Lib.OthersKept 5 (some b) w w':=by
 have hs:(⟨s.toArray⟩:ByteArray).size =s.length:=List.size_toArray
 refine(Any.Builder_WriteString_k Ec Tryd.Builder_Extra_156 B b (Lib.byteCells l) ⟨s.toArray⟩ w h (by rw[Lib.byteCells_length,hs];omega) hB).mono ?_
 rintro e w' ⟨rfl,h1,h2,h3⟩
 refine⟨by rw[hs],.inr ?_,h2,h3⟩
 have e1:Lib.byteCells (l++s)=Lib.byteCells l++Lib.strCells ⟨s.toArray⟩:=by simp[Lib.byteCells,Lib.strCells]
 rw[e1]
 exact h1
theorem Al (B b:Nat) (l:List UInt8) (w:World) (h:oh w B b l) (hB:B≤w.heap.size):
  Calls Tryd.prog 26 #[.pointer (some ⟨b,0,none⟩)] w fun e w'=>e= .returned (.string ⟨l.toArray⟩)∧Below B w w':=by
 refine(Any.Builder_String_any_k Ed Tryd.Builder_Extra_156 B b l w h hB).mono ?_
 rintro e w' ⟨rfl,_,h2,_⟩
 exact⟨rfl,h2⟩
theorem vK {ds:List Dev} (hd:∀d∈ds,d.name.size≤8) (l:au) (hp:l.p<100) (hq:l.q<100):(jW ds l).length ≤30:=by
 have key:∀i:Int,(nameAt ds i).length ≤8:=by
  intro i
  unfold nameAt
  cases e:ds[i.toNat]? with
  |none=>simp
  |some d=>
   have:=hd d (List.mem_of_getElem? e)
   simpa using this
 have h1:=key l.a
 have h2:=key l.b
 have h3:=bf (show l.p.toNat<100 by omega)
 have h4:=bf (show l.q.toNat<100 by omega)
 simp[jW];omega
theorem mH (n:bK) (W:World) (hn:fO W W.heap.size n):
  Calls Tryd.prog 8 #[n.val] W fun e W'=>e= .returned (.tuple #[.string ⟨(iQ n.bI n.ls).toArray⟩,.int .i64 (fE n.bI n.ls)])∧Below W.heap.size W W':=by
 have gX:=hide (fun w (hb:Below W.heap.size W w)=>pV n w (hn.below hb hb.size))
 by_cases h0:fE n.bI n.ls=0
 case neg=>
  have HP:=hide (show iQ n.bI n.ls=[] by rw[iQ,if_neg h0])
  have e1:(fE n.bI n.ls ==0)=false:=by simpa using h0
  have e2:(fE n.bI n.ls != 0)=true:=by simpa using h0
  rw[HP.out]
  generalize fE n.bI n.ls=E at*
  obtain⟨dA,dn,dc,ds,lA,ln,lc,ls⟩:=n
  have hb0:=(Below.refl W.heap.size W).alloc (Nat.le_refl _) (.cells #[.slice dA dn dc,.slice lA ln lc] 25)
  simp only[bK.val]at*
  go_enter Tryd.func8,Tryd.ntmps8
  go_wp2_with fail
  refine(gX.out _ hb0).mono ?_
  rintro e w1 ⟨rfl,hb⟩
  have HB:=hide (hb0.trans (hb.mono hb0.size))
  clear hb hb0 gX
  go_wp2
  go_ret2
  exact⟨rfl,HB.out⟩
 have HP:=hide (show iQ n.bI n.ls=iP n.bI n.ls by rw[iQ,if_pos h0])
 have zD:=hide (fun(d:ah) (hd:d∈n.ds)=>show qO d.dev from Ah (yX h0 d.dev (List.mem_map_of_mem hd)) (nY n.bI [] (lV h0).de d.dev (List.mem_map_of_mem hd)) (hn.uW d hd).pl)
 have EL:=hide (fun(l:au) (hl:l∈n.ls)=>rE h0 hl)
 have hdl:n.ds.length≤10:=by have:=(lV h0).dl;simpa[bK.bI]using this
 have hll:n.ls.length≤15:=(lV h0).ll
 have EM:=hide (show iP n.bI n.ls=n.ds.flatMap (fun d=>jO d.dev)++n.ls.flatMap (jW n.bI) by simp[iP,bK.bI,List.flatMap_map])
 have Ih:=hide (fun(l:au) (hl:l∈n.ls)=>vK (ds:=n.bI) (fun d hd=>by
  obtain⟨x,hx,rfl⟩:=List.mem_map.1 hd
  exact(zD.out x hx).nm) l (EL.out l hl).p.2 (EL.out l hl).q.2)
 have aO:=hide (fun(i:Nat) (d:ah) (hd:n.ds[i]?=some d)=>show nameAt n.bI (i:Int)=d.name.data.toList from pK (d:=d.dev) (by simp[bK.bI,hd]))
 have jk:=hide (show(n.bI.length:Int)=n.dn by have:=hn.qA;simp[bK.bI,this])
 rw[h0]at gX ⊢
 rw[HP.out]
 generalize n.bI=DV at*
 obtain⟨NT,F4⟩:∃l,iP DV n.ls=l:=⟨_,rfl⟩
 rw[F4]at EM ⊢
 have hdn:=hn.qA
 have hln:=hn.llen
 have HN:=hide hn
 obtain⟨dA,dn,dc,ds,lA,ln,lc,ls⟩:=n
 have hb0:=(Below.refl W.heap.size W).alloc (Nat.le_refl _) (.cells #[.slice dA dn dc,.slice lA ln lc] 25)
 have hx0:=heap_alloc_new W (.cells #[.slice dA dn dc,.slice lA ln lc] 25)
 simp only[bK.val]at*
 clear h0 HP F4 hn
 go_enter Tryd.func8,Tryd.ntmps8
 go_wp2_with fail
 refine(gX.out _ hb0).mono ?_
 rintro e w1 ⟨rfl,hb⟩
 have HB1:=hide (hb0.trans (hb.mono hb0.size))
 have fF:=hide ((hb.block W.heap.size (cO hx0)).trans hx0)
 clear hb hb0 hx0 gX
 have hx2:=(((Below.refl w1.heap.size w1).alloc (Nat.le_refl _) (.cells #[.pointer none,.slice none 0 0] 71)).block W.heap.size (cO fF.out)).trans fF.out
 have n0:(w1.alloc (.cells #[.pointer none,.slice none 0 0] 71)).cell? ⟨W.heap.size,0,none⟩=some (.slice dA dn dc):=by rw[cell_of_row _ _ _ _ _ _ hx2];rfl
 have Ii:=hide (oh.new w1)
 have IG:dn≤10:=by omega
 have II:ln≤15:=by omega
 clear hx2
 go_wp2_with fail
 have iJ:=hide ((Below.refl w1.heap.size w1).alloc (Nat.le_refl _) (.cells #[.pointer none,.slice none 0 0] 71))
 generalize w1.alloc (.cells #[.pointer none,.slice none 0 0] 71)=w2 at*
 go_loopw [18] (fun i wr=>∃(k:Nat) (J:List UInt8),k≤dn∧i= .int .i64 (k:Int)∧Hid (J=(ds.take k).flatMap (fun d=>jO d.dev))∧Hid (oh wr w1.heap.size w1.heap.size J)∧Hid (Below w1.heap.size w1 wr)) (fun i _=>dn - (intOf i).toNat)
 case atStart=>exact⟨0,[],Nat.zero_le _,rfl,hide (by simp),Ii,iJ⟩
 case round=>
  obtain⟨k,J,hk,rfl,HJ,jF,aA⟩:=hrel
  have iT:J.length≤30000:=by
   have h:=dY (fun d:ah=>jO d.dev) 3000 (ds.take k) (fun x hx=>sI (zD.out x (List.mem_of_mem_take hx)))
   rw[HJ.out];rw[List.length_take]at h;omega
  have hbW:Below W.heap.size W wr:=HB1.out.trans (aA.out.mono HB1.out.size)
  by_cases hlt:k<dn
  case pos=>
   obtain⟨d,hd⟩:∃d,ds[k]?=some d:=⟨_,List.getElem?_eq_getElem (by omega)⟩
   have hds:=HN.out.ds
   simp only at hds
   obtain⟨bb,oo,rfl,hbb,hgg⟩:=hds.2 (by omega)
   have tr:∀o v,W.cell? ⟨bb,o,none⟩=some v→wr.cell? ⟨bb,o,none⟩=some v:=fun o v h=>(hbW.cell (p:=⟨bb,o,none⟩) hbb).trans h
   have q0:wr.cell? ⟨bb,oo+k*7,none⟩=some (.string d.name):=tr _ _ (hgg k d hd 0 _ rfl)
   have q1:=tr _ _ (hgg k d hd 1 _ rfl)
   have q2:=tr _ _ (hgg k d hd 2 _ rfl)
   have q3:=tr _ _ (hgg k d hd 3 _ rfl)
   have q4:=tr _ _ (hgg k d hd 4 _ rfl)
   have q5:=tr _ _ (hgg k d hd 5 _ rfl)
   have q6:=tr _ _ (hgg k d hd 6 _ rfl)
   have Dx:=hide (fun w (hb:Below W.heap.size W w)=>xD d w ((HN.out.uW d (List.mem_of_getElem? hd)).below hb hb.size) (zD.out d (List.mem_of_getElem? hd)))
   have dK:=hide (dL (fun d:ah=>jO d.dev) hd)
   have Ij:=sI (zD.out d (List.mem_of_getElem? hd))
   obtain⟨D,hD⟩:∃D,jO d.dev=D:=⟨_,rfl⟩
   rw[hD]at Dx dK Ij
   have HJ2:=hide (show J++D=(ds.take (k+1)).flatMap (fun d:ah=>jO d.dev) by rw[dK.out,HJ.out])
   clear hgg tr hds dK hD HJ hd
   obtain⟨name,kind,addr,pool,bA,bn,bc,bs,rA,rn,rc,rs,tA,tn,tc,ts⟩:=d
   simp only[ah.val]at Dx q0 q1 q2 q3 q4 q5 q6
   have ho:=(Below.refl wr.heap.size wr).alloc (Nat.le_refl _) (.cells #[.string name,.int .i64 kind,.int .i64 addr,.int .u8 pool,.slice bA bn bc,.slice rA rn rc,.slice tA tn tc] 37)
   obtain⟨y0,y1,y2,y3,y4,y5,y6⟩:=fM (heap_alloc_new wr (.cells #[.string name,.int .i64 kind,.int .i64 addr,.int .u8 pool,.slice bA bn bc,.slice rA rn rc,.slice tA tn tc] 37))
   have xE:=hide (jF.out.below ho)
   have qR:=hide (aA.out.trans (ho.mono aA.out.size))
   have EN:=hide (hbW.trans (ho.mono hbW.size))
   clear ho jF aA hbW
   go_wp2_with fail
   generalize wr.alloc (.cells #[.string name,.int .i64 kind,.int .i64 addr,.int .u8 pool,.slice bA bn bc,.slice rA rn rc,.slice tA tn tc] 37)=w4 at*
   refine(Dx.out _ EN.out).mono ?_
   rintro e w5 ⟨rfl,hb5⟩
   have EO:=hide (xE.out.below hb5)
   have iU:=hide (qR.out.trans (hb5.mono qR.out.size))
   clear hb5 xE qR EN y0 y1 y2 y3 y4 y5 y6 q0 q1 q2 q3 q4 q5 q6 Dx
   go_wp2_with fail
   refine(vJ _ _ J D _ EO.out (by omega) iU.out.size).mono ?_
   rintro e w6 ⟨rfl,h6,hb6,_⟩
   have CS:=hide h6
   have sJ:=hide (iU.out.trans hb6)
   clear h6 hb6 EO iU
   go_wp2_with fail
   go_roundw
   case rel=>exact⟨k+1,_,by omega,by go_num,HJ2,CS,sJ⟩
   case measure=>simp[intOf];omega
  case neg=>
   obtain rfl:k=dn:=by omega
   have hall:ds.take k=ds:=List.take_of_length_le (by omega)
   rw[hall]at HJ
   have qU:=hide ((aA.out.block W.heap.size (Nat.lt_of_lt_of_le (cO fF.out) (Nat.le_refl _))).trans fF.out)
   have jm:=hide hbW
   have GI:=jF
   have CU:=aA
   have I9:=iT
   have m1:wr.cell? ⟨W.heap.size,1,none⟩=some (.slice lA ln lc):=by rw[cell_of_row _ _ _ _ _ _ qU.out];rfl
   obtain⟨w7,hw7⟩:∃w,w=wr:=⟨_,rfl⟩
   subst hw7
   clear iT hbW aA jF hall n0
   go_wp2_with fail
   go_loopw [29] (fun i wf=>∃(n:Nat) (L:List UInt8),n≤ln∧i= .int .i64 (n:Int)∧Hid (L=J++(ls.take n).flatMap (jW DV))∧Hid (oh wf w1.heap.size w1.heap.size L)∧Hid (Below w1.heap.size w1 wf)) (fun i _=>ln - (intOf i).toNat)
   case atStart=>exact⟨0,J,Nat.zero_le _,rfl,hide (by simp),GI,CU⟩
   case round=>
    obtain⟨n,L,hn,rfl,HL,jF,aA⟩:=hrel
    have nV:L.length≤31000:=by
     have h:=dY (jW DV) 30 (ls.take n) (fun x hx=>Ih.out x (List.mem_of_mem_take hx))
     rw[HL.out,List.length_append];rw[List.length_take]at h;omega
    have gT:Below W.heap.size W wr:=HB1.out.trans (aA.out.mono HB1.out.size)
    have Dy:=(aA.out.block W.heap.size (cO fF.out)).trans fF.out
    by_cases hlt2:n<ln
    case pos=>
     obtain⟨l,hl⟩:∃l,ls[n]?=some l:=⟨_,List.getElem?_eq_getElem (by omega)⟩
     have hls:=HN.out.ls
     simp only at hls
     have hlk:=EL.out l (List.mem_of_getElem? hl)
     obtain⟨bb,oo,rfl,hbb,hgg⟩:=hls.2 (by omega)
     have tr:∀o v,W.cell? ⟨bb,o,none⟩=some v→wr.cell? ⟨bb,o,none⟩=some v:=fun o v h=>(gT.cell (p:=⟨bb,o,none⟩) hbb).trans h
     have q0:wr.cell? ⟨bb,oo+n*4,none⟩=some (.int .i64 l.a):=tr _ _ (hgg n l hl 0 _ rfl)
     have q1:=tr _ _ (hgg n l hl 1 _ rfl)
     have q2:=tr _ _ (hgg n l hl 2 _ rfl)
     have q3:=tr _ _ (hgg n l hl 3 _ rfl)
     have Ja:=jk.out
     have hka:=hlk.a
     have hkb:=hlk.b
     have hkp:=hlk.p
     have hkq:=hlk.q
     -- the IJ names
     have hds:=HN.out.ds
     simp only at hds
     obtain⟨ia,hia⟩:∃i:Nat,l.a=i:=⟨l.a.toNat,by omega⟩
     obtain⟨ib,hib⟩:∃i:Nat,l.b=i:=⟨l.b.toNat,by omega⟩
     have GJ:ia<k:=by omega
     have GK:ib<k:=by omega
     obtain⟨da,hda⟩:∃d,ds[ia]?=some d:=⟨_,List.getElem?_eq_getElem (by omega)⟩
     obtain⟨db,hdb⟩:∃d,ds[ib]?=some d:=⟨_,List.getElem?_eq_getElem (by omega)⟩
     obtain⟨b2,o2,rfl,hb2,hg2⟩:=hds.2 (by omega)
     obtain⟨A,hA⟩:∃A:List UInt8,da.name=⟨A.toArray⟩:=⟨_,sK _⟩
     obtain⟨Bn,Dz⟩:∃A:List UInt8,db.name=⟨A.toArray⟩:=⟨_,sK _⟩
     have na:wr.cell? ⟨b2,o2+ia*7,none⟩=some (.string ⟨A.toArray⟩):=by rw[← hA];exact(gT.cell (p:=⟨b2,o2+ia*7,none⟩) hb2).trans (hg2 ia da hda 0 _ rfl)
     have nb:wr.cell? ⟨b2,o2+ib*7,none⟩=some (.string ⟨Bn.toArray⟩):=by rw[← Dz];exact(gT.cell (p:=⟨b2,o2+ib*7,none⟩) hb2).trans (hg2 ib db hdb 0 _ rfl)
     have hAn:nameAt DV l.a=A:=by rw[hia,aO.out ia da hda,hA]
     have hBm:nameAt DV l.b=Bn:=by rw[hib,aO.out ib db hdb,Dz]
     have tN:A.length≤8:=by have h:=(zD.out da (List.mem_of_getElem? hda)).nm;have e:da.dev.name=da.name:=rfl;have e2:(⟨A.toArray⟩:ByteArray).size =A.length:=List.size_toArray;rw[e,hA,e2]at h;exact h
     have hBl:Bn.length≤8:=by have h:=(zD.out db (List.mem_of_getElem? hdb)).nm;have e:db.dev.name=db.name:=rfl;have e2:(⟨Bn.toArray⟩:ByteArray).size =Bn.length:=List.size_toArray;rw[e,Dz,e2]at h;exact h
     have bg:=hide (show jW DV l=[108,105,110,107,32]++(nameAt DV l.a++32::(Lib.decDigits l.p.toNat++32::(nameAt DV l.b++32::(Lib.decDigits l.q.toNat++[10]))))from rfl)
     rw[hAn,hBm]at bg
     have dK:=hide (dL (jW DV) hl)
     have n0:wr.cell? ⟨W.heap.size,0,none⟩=some (.slice (some ⟨b2,o2,none⟩) k dc):=by rw[cell_of_row _ _ _ _ _ _ Dy];rfl
     have GL:=cO Dy
     have EP:b2<wr.heap.size:=Nat.lt_of_lt_of_le hb2 gT.size
     have hW1:W.heap.size<w1.heap.size:=cO fF.out
     have DC:b2<w1.heap.size:=by omega
     obtain⟨la,lp,lb,lq⟩:=l
     simp only at hia hib hkp hkq bg q0 q1 q2 q3
     subst hia hib
     have I1:=hide (fun w=>show Calls Tryd.prog 25 #[.int .i64 lp] w (fun e w'=>e= .returned (.string ⟨(Lib.decDigits (lp).toNat).toArray⟩)∧w'=w)from by
      have h:=Tryd.strconv_Itoa_small (lp).toNat (by have:=hkp;omega) w
      rw[show(((lp).toNat :Nat):Int)=lp by have:=hkp;omega]at h
      exact h)
     have I2:=hide (fun w=>show Calls Tryd.prog 25 #[.int .i64 lq] w (fun e w'=>e= .returned (.string ⟨(Lib.decDigits (lq).toNat).toArray⟩)∧w'=w)from by
      have h:=Tryd.strconv_Itoa_small (lq).toNat (by have:=hkq;omega) w
      rw[show(((lq).toNat :Nat):Int)=lq by have:=hkq;omega]at h
      exact h)
     have l1:=bf (show lp.toNat<100 by omega)
     have l2:=bf (show lq.toNat<100 by omega)
     generalize Lib.decDigits lp.toNat=X at*
     generalize Lib.decDigits lq.toNat=Y at*
     have HL2:=hide (show L++([108,105,110,107,32]++(A++32::(X++32::(Bn++32::(Y++[10])))))=J++(ls.take (n+1)).flatMap (jW DV) by rw[dK.out,HL.out,bg.out,List.append_assoc])
     have JC:([108,105,110,107,32]++(A++32::(X++32::(Bn++32::(Y++[10]))))).length ≤40:=by simp;omega
     have GJ:((ia:Nat):Int)<(k:Int):=by omega
     have GK:((ib:Nat):Int)<(k:Int):=by omega
     clear hgg tr hds hg2 bg dK hAn hBm hA Dz hl hlk hka hkb hda hdb HL hls Dy
     have e1:∀w',(Op.stringOp .add ⟨List.toArray ([108,105,110,107,32])⟩ ⟨List.toArray (A)⟩).run Tryd.prog w'= .ok (.string ⟨List.toArray (108::105::110::107::32::A)⟩) w':=fun w'=>by
      have:=aj ([108,105,110,107,32]) (A) (by(try simp only[List.length_append,List.length_cons,List.length_nil])<;>omega) (by(try simp only[List.length_append,List.length_cons,List.length_nil])<;>omega) w'
      simpa using this
     have e2:∀w',(Op.stringOp .add ⟨List.toArray (108::105::110::107::32::A)⟩ ⟨List.toArray ([32])⟩).run Tryd.prog w'= .ok (.string ⟨List.toArray (108::105::110::107::32::(A++[32]))⟩) w':=fun w'=>by
      have:=aj (108::105::110::107::32::A) ([32]) (by(try simp only[List.length_append,List.length_cons,List.length_nil])<;>omega) (by(try simp only[List.length_append,List.length_cons,List.length_nil])<;>omega) w'
      simpa using this
     have e3:∀w',(Op.stringOp .add ⟨List.toArray (108::105::110::107::32::(A++[32]))⟩ ⟨List.toArray (X)⟩).run Tryd.prog w'= .ok (.string ⟨List.toArray (108::105::110::107::32::(A++32::X))⟩) w':=fun w'=>by
      have:=aj (108::105::110::107::32::(A++[32])) (X) (by(try simp only[List.length_append,List.length_cons,List.length_nil])<;>omega) (by(try simp only[List.length_append,List.length_cons,List.length_nil])<;>omega) w'
      simpa using this
     have e4:∀w',(Op.stringOp .add ⟨List.toArray (108::105::110::107::32::(A++32::X))⟩ ⟨List.toArray ([32])⟩).run Tryd.prog w'= .ok (.string ⟨List.toArray (108::105::110::107::32::(A++32::(X++[32])))⟩) w':=fun w'=>by
      have:=aj (108::105::110::107::32::(A++32::X)) ([32]) (by(try simp only[List.length_append,List.length_cons,List.length_nil])<;>omega) (by(try simp only[List.length_append,List.length_cons,List.length_nil])<;>omega) w'
      simpa using this
     have e5:∀w',(Op.stringOp .add ⟨List.toArray (108::105::110::107::32::(A++32::(X++[32])))⟩ ⟨List.toArray (Bn)⟩).run Tryd.prog w'= .ok (.string ⟨List.toArray (108::105::110::107::32::(A++32::(X++32::Bn)))⟩) w':=fun w'=>by
      have:=aj (108::105::110::107::32::(A++32::(X++[32]))) (Bn) (by(try simp only[List.length_append,List.length_cons,List.length_nil])<;>omega) (by(try simp only[List.length_append,List.length_cons,List.length_nil])<;>omega) w'
      simpa using this
     have e6:∀w',(Op.stringOp .add ⟨List.toArray (108::105::110::107::32::(A++32::(X++32::Bn)))⟩ ⟨List.toArray ([32])⟩).run Tryd.prog w'= .ok (.string ⟨List.toArray (108::105::110::107::32::(A++32::(X++32::(Bn++[32]))))⟩) w':=fun w'=>by
      have:=aj (108::105::110::107::32::(A++32::(X++32::Bn))) ([32]) (by(try simp only[List.length_append,List.length_cons,List.length_nil])<;>omega) (by(try simp only[List.length_append,List.length_cons,List.length_nil])<;>omega) w'
      simpa using this
     have e7:∀w',(Op.stringOp .add ⟨List.toArray (108::105::110::107::32::(A++32::(X++32::(Bn++[32]))))⟩ ⟨List.toArray (Y)⟩).run Tryd.prog w'= .ok (.string ⟨List.toArray (108::105::110::107::32::(A++32::(X++32::(Bn++32::Y))))⟩) w':=fun w'=>by
      have:=aj (108::105::110::107::32::(A++32::(X++32::(Bn++[32])))) (Y) (by(try simp only[List.length_append,List.length_cons,List.length_nil])<;>omega) (by(try simp only[List.length_append,List.length_cons,List.length_nil])<;>omega) w'
      simpa using this
     have e8:∀w',(Op.stringOp .add ⟨List.toArray (108::105::110::107::32::(A++32::(X++32::(Bn++32::Y))))⟩ ⟨List.toArray ([10])⟩).run Tryd.prog w'= .ok (.string ⟨List.toArray (108::105::110::107::32::(A++32::(X++32::(Bn++32::(Y++[10])))))⟩) w':=fun w'=>by
      have:=aj (108::105::110::107::32::(A++32::(X++32::(Bn++32::Y)))) ([10]) (by(try simp only[List.length_append,List.length_cons,List.length_nil])<;>omega) (by(try simp only[List.length_append,List.length_cons,List.length_nil])<;>omega) w'
      simpa using this
     have ho:=(Below.refl wr.heap.size wr).alloc (Nat.le_refl _) (.cells #[.int .i64 (ia:Int),.int .i64 lp,.int .i64 (ib:Int),.int .i64 lq] 55)
     have hbx:=heap_alloc_new wr (.cells #[.int .i64 (ia:Int),.int .i64 lp,.int .i64 (ib:Int),.int .i64 lq] 55)
     have n1:=(ho.cell (p:=⟨W.heap.size,0,none⟩) GL).trans n0
     have ER:=(ho.cell (p:=⟨b2,o2+ia*7,none⟩) EP).trans na
     have ES:=(ho.cell (p:=⟨b2,o2+ib*7,none⟩) EP).trans nb
     have xE:=hide (jF.out.below ho)
     have qR:=hide (aA.out.trans (ho.mono aA.out.size))
     have hNb:wr.heap.size≠w1.heap.size:=by have:=jF.out.lt;omega
     clear ho jF aA gT
     go_wp2_with fail
     generalize hw4:wr.alloc (.cells #[.int .i64 (ia:Int),.int .i64 lp,.int .i64 (ib:Int),.int .i64 lq] 55)=w4 at*
     clear hw4 n0 na nb
     generalize wr.heap.size=N9 at*
     obtain⟨y0,y1,y2,y3,_⟩:=kM hbx
     have F5:=hide (fun(w':World) (hb:Below w1.heap.size w4 w') (ho:Lib.OthersKept 5 (some w1.heap.size) w4 w')=>show(w'.cell? ⟨W.heap.size,0,none⟩=some (.slice (some ⟨b2,o2,none⟩) k dc)∧w'.cell? ⟨b2,o2+ia*7,none⟩=some (.string ⟨A.toArray⟩)∧w'.cell? ⟨b2,o2+ib*7,none⟩=some (.string ⟨Bn.toArray⟩)∧w'.cell? ⟨N9,0,none⟩=some (.int .i64 (ia:Int))∧w'.cell? ⟨N9,1,none⟩=some (.int .i64 lp)∧w'.cell? ⟨N9,2,none⟩=some (.int .i64 (ib:Int))∧w'.cell? ⟨N9,3,none⟩=some (.int .i64 lq))from by
      obtain⟨z0,z1,z2,z3,_⟩:=kM (ho N9 _ hbx (fun h=>hNb (Option.some.inj h)) (fun c fz h=>by injection h with _ h2 _;exact absurd h2 (by decide)))
      exact⟨(hb.cell (p:=⟨W.heap.size,0,none⟩) hW1).trans n1,(hb.cell (p:=⟨b2,o2+ia*7,none⟩) DC).trans ER,(hb.cell (p:=⟨b2,o2+ib*7,none⟩) DC).trans ES,z0,z1,z2,z3⟩)
     clear hbx
     go_region_held3 (fun w'=>w'.cell? ⟨W.heap.size,0,none⟩=some (.slice (some ⟨b2,o2,none⟩) k dc)∧w'.cell? ⟨b2,o2+ia*7,none⟩=some (.string ⟨A.toArray⟩)∧w'.cell? ⟨b2,o2+ib*7,none⟩=some (.string ⟨Bn.toArray⟩)∧w'.cell? ⟨N9,0,none⟩=some (.int .i64 (ia:Int))∧w'.cell? ⟨N9,1,none⟩=some (.int .i64 lp)∧w'.cell? ⟨N9,2,none⟩=some (.int .i64 (ib:Int))∧w'.cell? ⟨N9,3,none⟩=some (.int .i64 lq)) (go_keep) (first | (go_at_call_of 25 (Value.int .i64 lp);refine(I1.out _).mono ?_;rintro e w5 ⟨rfl,rfl⟩) | (go_at_call_of 25 (Value.int .i64 lq);refine(I2.out _).mono ?_;rintro e w5 ⟨rfl,rfl⟩) | (go_at_call 23;refine(vJ _ _ L _ _ (xE.out.below (by first | exact Below.refl _ _ | exact below_drewN _ _)) (by simp;omega) (by first | exact qR.out.size | exact qR.out.size)).mono ?_;rintro e w6 ⟨rfl,h6,hb6,F6⟩;have CS:=hide h6;have sJ:=hide (show Below w1.heap.size w4 w6 from(by first | exact hb6 | exact((Below.refl _ _).drew).trans hb6));have ET:=hide (F5.out w6 sJ.out (fun k o h1 h2 h3=>F6 k o h1 h2 h3));obtain⟨n1,ER,ES,y0,y1,y2,y3⟩:=ET.out;clear h6 hb6 F6))
     have GN:=hide (qR.out.trans sJ.out)
     rename_i Am
     clear Am n1 ER ES y0 y1 y2 y3 ET F5 sJ qR xE I1 I2
     go_wp2_with fail
     go_roundw
     case rel=>exact⟨n+1,_,by omega,by go_num,by simpa using HL2,CS,GN⟩
     case measure=>simp[intOf];omega
    case neg=>
     obtain rfl:n=ln:=by omega
     have hall:ls.take n=ls:=List.take_of_length_le (by omega)
     rw[hall]at HL
     have nK:=hide (show L=NT by rw[HL.out,HJ.out,EM.out])
     have EU:=aA
     have vL:=hide (fun w (h:oh w w1.heap.size w1.heap.size L) (hz:w1.heap.size≤w.heap.size)=>Al _ _ L w h hz)
     clear HL HJ EM hall gT Dy aA
     go_wp2_with fail
     refine(vL.out _ jF.out EU.out.size).mono ?_
     rintro e w9 ⟨rfl,BH⟩
     have jP:=hide (HB1.out.trans ((EU.out.trans BH).mono HB1.out.size))
     clear BH vL jF EU
     go_wp2
     go_ret2
     exact⟨by rw[← nK.out];rfl,jP.out⟩
def CV (v:Value):Nat:=match v with | .string b=>b.size | _=>0
theorem vM (t:List UInt8):CV (.string ⟨t.toArray⟩)=t.length:=by
 show t.toArray.size=_
 simp
def zF:bK:=⟨none,0,0,[],none,0,0,[]⟩
theorem Ao (w:World) (B:Nat):fO w B zF:=
 ⟨⟨rfl,fun h=>absurd h (Nat.lt_irrefl 0)⟩,fun d hd=>(nomatch hd),⟨rfl,fun h=>absurd h (Nat.lt_irrefl 0)⟩,fun d hd=>(nomatch hd),⟨Nat.le_refl _,Nat.zero_le _⟩,⟨Nat.le_refl _,Nat.zero_le _⟩⟩
def rF (l:List UInt8) (W:World) (e:Ending) (W':World):Prop:=
 Below W.heap.size W W'∧∃n:bK,e= .returned (.tuple #[n.val,.int .i64 ((fG l).2.1:Int),.int .i64 (fG l).2.2])∧fO W' W'.heap.size n∧n.bI=(fG l).1.ds ∧n.ls=(fG l).1.ls
theorem mQ {l:List UInt8} {W W':World} {k:Nat} {x:Int} (h:fG l=(⟨[],[]⟩,k,x)) (hb:Below W.heap.size W W'):rF l W (.returned (.tuple #[.agg #[.slice none 0 0,.slice none 0 0],.int .i64 (k:Int),.int .i64 x])) W':=
 ⟨hb,zF,by rw[h];rfl,Ao _ _,by rw[h];rfl,by rw[h];rfl⟩
theorem qV {w:World} {B:Nat} {a b:Value} {t:TypeId} (h:Bx w B #[a,b] t):w.cell? ⟨B,0,none⟩=some a∧w.cell? ⟨B,1,none⟩=some b∧w.frozen? ⟨B,0,none⟩=false∧w.frozen? ⟨B,1,none⟩=false:=
 ⟨h.get 0 _ rfl,h.get 1 _ rfl,h.frozen 0,h.frozen 1⟩
theorem oI (l:List UInt8) (W:World) (hl:l.length≤9223372036854775807) (hm:dF W):
  Calls Tryd.prog 5 #[.string ⟨l.toArray⟩] W (rF l W):=by
 have hrf:=yU l
 have gZ:=hide (Bx.new W #[.slice none 0 0,.slice none 0 0] 25)
 have HB0:=hide (below_alloc2 W (.cells #[.slice none 0 0,.slice none 0 0] 25))
 have hsz0:(W.alloc (.cells #[.slice none 0 0,.slice none 0 0] 25)).heap.size =W.heap.size+1:=by simp
 have uO:(⟨l.toArray⟩:ByteArray).size =l.length:=List.size_toArray
 by_cases hbig:4096<l.length
 ·rw[if_pos hbig]at hrf
  have HR:=hide hrf
  obtain⟨nl,hnl⟩:∃nl,l.length=nl:=⟨_,rfl⟩
  rw[hnl]at uO hbig hl
  clear hrf
  obtain⟨s,hss⟩:∃s:ByteArray,⟨l.toArray⟩=s:=⟨_,rfl⟩
  rw[hss]at uO ⊢
  obtain⟨z0,z1,z2,z3⟩:=qV gZ.out
  clear hnl hss
  go_enter Tryd.func5,Tryd.ntmps5
  go_wp2_with fail
  refine bodyPost_ret (v:=.tuple #[.agg #[.slice none 0 0,.slice none 0 0],.int .i64 0,.int .i64 2]) (by simp[results,Tryd.f5,go_sem,z0,z1]) rfl ?_
  exact mQ HR.out HB0.out
 rw[if_neg hbig]at hrf
 have HR:=hide hrf
 obtain⟨W1,hW1⟩:∃W1,W1=W.alloc (.cells #[.slice none 0 0,.slice none 0 0] 25):=⟨_,rfl⟩
 obtain⟨B,hB⟩:∃B,W.heap.size=B:=⟨_,rfl⟩
 rw[← hW1,hB]at gZ HB0 hsz0
 obtain⟨W2,hW2⟩:∃W2,W2=W1.alloc (.cells #[.slice none 0 0,.slice none 0 0,.bool false] 41):=⟨_,rfl⟩
 have HB2:=hide (show Below B W W2 from by rw[hW2];exact HB0.out.alloc (by omega) _)
 have GQ:=hide (show Bx W2 B #[.slice none 0 0,.slice none 0 0] 25 from by rw[hW2];exact gZ.out.below (below_alloc2 W1 _))
 have EW:=hide (show Bx W2 (B+1) #[.slice none 0 0,.slice none 0 0,.bool false] 41 from by rw[hW2,← hsz0];exact Bx.new W1 _ _)
 have hsz2:W2.heap.size=B+2:=by rw[hW2];simp;omega
 have hle:decide (4096<l.length)=false:=decide_eq_false hbig
 have hl4:l.length≤4096:=by omega
 obtain⟨rl,hrl⟩:∃rl,kg ⟨[],[]⟩ 1 l=rl:=⟨_,rfl⟩
 have Dj:=hide hrl
 rw[hrl]at HR
 have GR:=hide (show kY iZ 41 W2 (B+1) ⟨[],[]⟩from⟨[],.slice none 0 0,.slice none 0 0,EW.out,NG.start W2 _,rfl⟩)
 have Ik:=hide hm
 obtain⟨nl,hnl⟩:∃nl,l.length=nl:=⟨_,rfl⟩
 rw[hnl]at uO hle hl4
 clear hrf hbig hm hrl hl EW gZ HB0
 go_enter Tryd.func5,Tryd.ntmps5
 go_wp2_with fail
 rw[← hW1,← hW2]
 go_loopw [0,6] (fun sv av wr=>∃(t:List UInt8) (S:dH) (k:Nat),sv= .string ⟨t.toArray⟩∧av= .int .i64 (k:Int)∧1≤k∧k+t.length≤nl+1∧Hid (kg S k t=rl)∧Hid (kY iZ 41 wr (B+1) S)∧Hid (dO S k)∧Hid (Below (B+1) W2 wr)) (fun sv _ _=>CV sv)
 case atStart=>exact⟨l,⟨[],[]⟩,1,rfl,rfl,Nat.le_refl _,by omega,Dj,GR,hide ⟨by simp,by simp,fun d hd=>(nomatch hd),fun d hd=>(nomatch hd)⟩,hide (Below.refl _ _)⟩
 case round=>
  obtain⟨t,S,k,rfl,rfl,hk1,hkt,bg,jo,DF,aA⟩:=hrel
  have nE:=hide (Ik.out.below (show Below W.heap.size W wr from by rw[hB];exact HB2.out.trans (aA.out.mono (by omega))))
  have BI:=hide (GQ.out.same (aA.out.block B (by omega)))
  have Jb:B+2≤wr.heap.size:=by have:=aA.out.size;omega
  by_cases ht:t=[]
  case pos=>
   subst ht
   rw[Ad]at bg
   rw[← bg.out]at HR
   obtain⟨ds,V,L,hbx,dQ,hds⟩:=jo.out
   have dP:Bx wr (B+1) #[V,L,.bool (!S.ls.isEmpty)] 41:=hbx
   obtain⟨dA,dc,rfl,_⟩:=bN.jZ ah.len dQ.d rfl
   obtain⟨lA,lc,rfl,_⟩:=bN.jZ au.len dQ.l rfl
   have DI:=hide (pV ⟨dA,ds.length,dc,ds,lA,S.ls.length,lc,S.ls⟩ wr dQ.zQ)
   have hdv:bK.bI ⟨dA,ds.length,dc,ds,lA,S.ls.length,lc,S.ls⟩=S.ds:=hds
   rw[hdv]at DI
   have r0:wr.cell? ⟨B+1,0,none⟩=some (.slice dA ds.length dc):=dP.get 0 _ rfl
   have r1:wr.cell? ⟨B+1,1,none⟩=some (.slice lA S.ls.length lc):=dP.get 1 _ rfl
   have rU:=hide dQ
   have iJ:=hide dP
   obtain⟨E,hE⟩:∃E,fE S.ds S.ls=E:=⟨_,rfl⟩
   simp only[bK.val,hE]at DI HR
   have oU:=hide hds
   clear hbx dP dQ hds jo bg hE DF
   go_wp2_with fail
   refine DI.out.mono ?_
   rintro e w5 ⟨rfl,hb5⟩
   have GU:=hide (rU.out.below hb5)
   have wU:=hide (iJ.out.below hb5)
   have sM:=hide (BI.out.below hb5)
   have iU:=hide (HB2.out.trans ((aA.out.trans (hb5.mono (by omega))).mono (by omega)))
   obtain⟨z0,z1,z2,z3⟩:=qV sM.out
   have s0:w5.cell? ⟨B+1,0,none⟩=some (.slice dA ds.length dc):=wU.out.get 0 _ rfl
   have s1:w5.cell? ⟨B+1,1,none⟩=some (.slice lA S.ls.length lc):=wU.out.get 1 _ rfl
   have Jc:B+2≤w5.heap.size:=by have:=hb5.size;omega
   clear hb5 DI rU iJ BI aA r0 r1
   by_cases hE0:E=0
   case neg=>
    rw[if_neg hE0]at HR
    have e2:(E ==0)=false:=by simpa using hE0
    have e3:(E != 0)=true:=by simpa using hE0
    go_wp2_with fail
    refine bodyPost_ret (v:=.tuple #[.agg #[.slice none 0 0,.slice none 0 0],.int .i64 0,.int .i64 E]) (by simp[results,Tryd.f5,go_sem,z0,z1]) rfl ?_
    exact mQ HR.out (by rw[hB];exact(iU.out.setCell (p:=⟨B,0,none⟩) (Nat.le_refl B) _).setCell (p:=⟨B,1,none⟩) (Nat.le_refl B) _)
   case pos=>
    subst hE0
    rw[if_pos rfl]at HR
    have Ap:=hide ((sM.out.set 0 (.slice dA ds.length dc)).set 1 (.slice lA S.ls.length lc))
    have sJ:=hide ((iU.out.setCell (p:=⟨B,0,none⟩) (Nat.le_refl B) (.slice dA ds.length dc)).setCell (p:=⟨B,1,none⟩) (Nat.le_refl B) (.slice lA S.ls.length lc))
    have GV:=hide (GU.out.same (w':=(w5.setCell ⟨B,0,none⟩ (.slice dA ds.length dc)).setCell ⟨B,1,none⟩ (.slice lA S.ls.length lc)) (fun q h1 h2=>(RowKit.Below.heap_setCell _ _ _ _ (show q≠B by omega)).trans (RowKit.Below.heap_setCell _ _ _ _ (show q≠B by omega))))
    obtain⟨y0,y1,y2,y3⟩:=qV (a:=.slice dA ds.length dc) (b:=.slice lA S.ls.length lc) Ap.out
    go_wp2_with fail
    refine bodyPost_ret (v:=.tuple #[.agg #[.slice dA ds.length dc,.slice lA S.ls.length lc],.int .i64 0,.int .i64 0]) (by simp[results,Tryd.f5,go_sem,y0,y1]) rfl ?_
    exact⟨by rw[hB];exact sJ.out,_,by rw[HR.out];rfl,GV.out.zQ,by rw[HR.out];exact oU.out,by rw[HR.out]⟩
  case neg=>
   have e1:(t ==[])=false:=by simpa using ht
   have HC:=hide (pI ⟨t.toArray⟩ 10 wr (by show t.toArray.size≤_;rw[List.size_toArray];omega) nE.out)
   by_cases h10:10∈t
   case neg=>
    have HF:=hide (Ae S k ht h10)
    rw[bg.out]at HF
    rw[HF.out]at HR
    have jl:=hide (HC.out.mono (fun e w' h=>show e= .returned (.tuple #[.string ⟨t.toArray⟩,.string ⟨#[]⟩,.bool (decide (10∈t))])∧Below wr.heap.size wr w' from by
     have h':=h
     rw[show(⟨t.toArray⟩:ByteArray).data.toList =t from rfl,ng 10 t h10]at h'
     exact h'))
    have Il:decide (10∈t)=false:=decide_eq_false h10
    rw[Il]at jl
    clear HC bg HF jo DF
    go_wp2_with fail
    refine jl.out.mono ?_
    rintro e w5 ⟨rfl,hb5⟩
    have sM:=hide (BI.out.below hb5)
    have iU:=hide (HB2.out.trans ((aA.out.trans (hb5.mono (by omega))).mono (by omega)))
    obtain⟨z0,z1,z2,z3⟩:=qV sM.out
    clear hb5 jl
    go_wp2_with fail
    refine bodyPost_ret (v:=.tuple #[.agg #[.slice none 0 0,.slice none 0 0],.int .i64 (k:Int),.int .i64 3]) (by simp[results,Tryd.f5,go_sem,z0,z1]) rfl ?_
    exact mQ HR.out (by rw[hB];exact(iU.out.setCell (p:=⟨B,0,none⟩) (Nat.le_refl B) _).setCell (p:=⟨B,1,none⟩) (Nat.le_refl B) _)
   case pos=>
    obtain⟨u,v,rfl,hu⟩:=iE h10
    have hlen:(u++10::v).length =u.length+v.length+1:=by simp;omega
    rw[hlen]at hkt
    have F7:u.length≤4096:=by omega
    have jl:=hide (HC.out.mono (fun e w' h=>show e= .returned (.tuple #[.string ⟨u.toArray⟩,.string ⟨v.toArray⟩,.bool true])∧Below wr.heap.size wr w' from by
     have h':=h
     rw[show(⟨(u++10::v).toArray⟩:ByteArray).data.toList =u++10::v from rfl,oK 10 u v hu,decide_eq_true h10]at h'
     exact h'))
    have nL:=hide (Af S k (v:=v) hu)
    rw[bg.out]at nL
    have F8:=hide (yV F7)
    have iO:=hide (fun w (h:dF w)=>kX u 32 w (by omega) h)
    have hpn:=jR 32 u
    have hpl:=gJ 32 u
    obtain⟨x,rest,F9⟩:∃x rest,pieces 32 u=x::rest:=by
     cases hc:pieces 32 u with
     |nil=>rw[hc]at hpn;simp at hpn
     |cons a t=>exact⟨a,t,rfl⟩
    obtain⟨n,hn⟩:∃n,(pieces 32 u).length =n:=⟨_,rfl⟩
    rw[hn]at iO hpn hpl
    rw[F9]at iO nL F8
    have GX:=hide (DF.out.mono (show k≤10000 by omega))
    obtain⟨su,hsu⟩:∃su:ByteArray,⟨u.toArray⟩=su:=⟨_,rfl⟩
    have lC:=hide (show CV (.string ⟨(u++10::v).toArray⟩)=u.length+v.length+1 from by rw[vM];exact hlen)
    rw[hsu]at jl iO
    clear HC bg F7 hlen h10 hn F9 hsu
    generalize (u++10::v)=t at*
    go_wp2_with fail
    refine jl.out.mono ?_
    rintro e w5 ⟨rfl,hb5⟩
    have nH:=hide (nE.out.below hb5)
    have EX:=hide (jo.out.below hb5)
    have sM:=hide (BI.out.below hb5)
    have bH:=hide (aA.out.trans (hb5.mono (by omega)))
    have hsz5:=hb5.size
    clear hb5 jl jo BI aA nE
    go_wp2_with fail
    refine(iO.out _ nH.out).mono ?_
    rintro e w6 ⟨rfl,hst,hb6⟩
    have Ga:=hide (nH.out.below hb6)
    have EY:=hide (EX.out.below hb6)
    have Ap:=hide (sM.out.below hb6)
    have dR:=hide (bH.out.trans (hb6.mono (by omega)))
    have uL:=hb6.size
    have qW:=hide (Ag (B+1) S x rest w5.heap.size w5.heap.size n n w6 Ga.out EY.out GX.out hst F8.out (by omega))
    clear hb6 iO EX EY sM bH nH hst Ga
    go_wp2_with fail
    refine qW.out.mono ?_
    intro e w7 hlr
    obtain⟨om,hcase⟩:=hlr
    have oG:w6.heap.size≤w7.heap.size:=om.size
    have GY:=hide (Ap.out.same (om.block B (Nat.lt_succ_self B)))
    have bM:=hide (dR.out.trans om)
    clear Ap dR qW
    rcases hcase with⟨hr,rfl⟩ | ⟨S',hr,rfl,hrd⟩
    ·rw[hr]at nL
     rw[nL.out]at HR
     obtain⟨z0,z1,z2,z3⟩:=qV GY.out
     have cu:=hide (HB2.out.trans (bM.out.mono (by omega)))
     clear om nL hr
     go_wp2_with fail
     refine bodyPost_ret (v:=.tuple #[.agg #[.slice none 0 0,.slice none 0 0],.int .i64 (k:Int),.int .i64 3]) (by simp[results,Tryd.f5,go_sem,z0,z1]) rfl ?_
     exact mQ HR.out (by rw[hB];exact(cu.out.setCell (p:=⟨B,0,none⟩) (Nat.le_refl B) _).setCell (p:=⟨B,1,none⟩) (Nat.le_refl B) _)
    ·rw[hr]at nL
     have GZ:=hide (DF.out.line hr)
     have G7:=hide hrd
     clear hr om hrd
     go_wp2_with fail
     go_roundw
     case rel=>exact⟨v,S',k+1,rfl,by go_num,by omega,by omega,hide nL.out.symm,G7,GZ,bM⟩
     case measure=>rw[lC.out,vM];omega
end Go.Proofs.YtifkacnoiocebaaDoor
