/- A part of the proof: Rd14. -/
import Derived.Test.YtlhmdcgckocidaaGreatHr34
set_option linter.unusedVariables false
set_option linter.unusedSimpArgs false
set_option maxRecDepth 100000
set_option maxHeartbeats 8000000
namespace Go.Proofs.YtlhmdcgckocidaaGreat
open ak Go.Maps Go.RowKit
theorem nG.below {A:St} {M:dB→Option Value} {S:Pl→ak.Fn} {ks:List Pl} (h:nG A M S ks) (hv:A.vars=14) (i:Inv A) (x:Pl):ak.Below 14 (S x):=by
 rw[← (h.tL x).2,← hv]
 exact xX i.ok _ (h.tL x).1
theorem QC {ds:List Dev} {ls:List av} {k d:Nat} (h:ds.length=d):gF ds ls (aR ds ls k) (aR ds ls k) d=aR ds ls (k+1):=by subst h;rfl
theorem lY.add {wr:World} {B g rb base:Nat} {A:St} {v:Value} {L:List gQ} {ks:List Pl} {er:Nat} (more:List Nat) (h:lY wr B g A rb base v L ks er []) (hsa:AS wr B g A (v.ownBlock.toList++(more++rb::L.map gQ.blk))) (hap:∀q,v.ownBlock=some q→q∉more) (hrb:rb∉more):lY wr B g A rb base v L ks er more:=
 ⟨hsa,h.own,fun q hq hm=>by
  rcases List.mem_append.1 hm with a | a
  ·exact hap q hq a
  ·exact h.ap q hq (by simpa using a),h.bx,h.ents,fun hm=>by
  rcases List.mem_append.1 hm with a | a
  ·exact hrb a
  ·exact h.ne (by simpa using a)⟩
theorem V9 (W:World) (a b:Nat) (Ma Mb:dB→Option Value) (ha:aS Tryz.prog 27 dS eD W a Ma) (hb:aS Tryz.prog 27 dS eD W b Mb) (iA:Ints Ma) (iB:Ints Mb) (r:Bool) (hr:r=true↔∀x,(Mb x).isSome =true→bQ Ma x=bQ Mb x):
  Calls Tryz.prog 59 #[.map (some a),.map (some b)] W fun e W'=>e= .returned (.bool r)∧RowKit.Below W.heap.size W W':=
 (Qj W a b Ma Mb ha hb iA iB).mono fun e w' ⟨h1,h2⟩=>by
  rcases h2 with⟨rfl,h⟩ | ⟨rfl,x,hx,hne⟩
  ·exact⟨by rw[hr.2 h],h1⟩
  ·exact⟨by rw[Bool.eq_false_iff.2 (fun hh=>hne (hr.1 hh x hx))],h1⟩
theorem AJ (n:aH) (most:Nat) (W:World) (hn:bf W W.heap.size n) (hE:dD n.au n.ls=0) (hm1:2≤most) (hm2:most≤40000):
  (P:ak.Fn→Prop)→(CF P n.au n.ls (fun _ _=>false))→(∀k,BU P n.au n.ls (aR n.au n.ls k) (aR n.au n.ls k))→
  Calls Tryz.prog 13 #[n.val,.int .i64 (most:Int)] W (BZ n most P W):=by
 intro P hP1 hP2
 have HP:=hide (And.intro hP1 hP2)
 have HD:=hide (And.intro (jC hE) (And.intro (M0 hE) (show n.dn≤10 from by have:=(dH hE).dl;have:=hn.eZ;simp only[aH.au,List.length_map]at*;omega)))
 have qg:=hide hn.eZ
 clear hP1 hP2
 have pQ:=hide (fun(w':World) (hb:RowKit.Below W.heap.size W w') (B':Nat) (hB:W.heap.size≤B')=>show bf w' B' n from hn.below hb hB)
 have HC:=hide (fun(w':World) (hb:RowKit.Below W.heap.size W w')=>vG n w' (hn.below hb hb.size))
 have HE:=hide hE
 simp only[hE]at HC
 clear hn hE
 have hmm:=@run_makeMap Tryz.prog
 obtain⟨dA,dn,dc,ds,lA,ln,lc,ls⟩:=n
 simp only[aH.val,aH.au]at*
 go_enter Tryz.func13,Tryz.ntmps13
 go_wp2_with fail
 have hb0:=below_alloc2 W (.cells #[.slice dA dn dc,.slice lA ln lc] 25)
 have HB0:=hide hb0
 have HX0:=hide (Bx.new W #[.slice dA dn dc,.slice lA ln lc] 25)
 refine(HC.out _ hb0).mono ?_
 clear HC
 rintro e w1 ⟨rfl,hb⟩
 have HB1:=hide (HB0.out.trans (hb.mono HB0.out.size))
 have cK:=hide (HX0.out.below hb)
 clear hb hb0 HB0 HX0
 go_wp2_with fail
 refine(aaA w1 14 most (by omega) (by omega) hm1 hm2).mono ?_
 rintro e w2 ⟨g,rfl,has,hb⟩
 have HA2:=hide has
 have HB2:=hide (HB1.out.trans (hb.mono HB1.out.size))
 have bO:=hide (cK.out.below hb)
 clear has hb
 have x0:∀o1 o2,((w2.alloc o1).alloc o2).cell? ⟨W.heap.size,0,none⟩=some (.slice dA dn dc):=fun o1 o2=>((bO.out.below (below_alloc2 w2 o1)).below (below_alloc2 _ o2)).get 0 _ rfl
 have x1:∀o1 o2,((w2.alloc o1).alloc o2).cell? ⟨W.heap.size,1,none⟩=some (.slice lA ln lc):=fun o1 o2=>((bO.out.below (below_alloc2 w2 o1)).below (below_alloc2 _ o2)).get 1 _ rfl
 have jM:=hide (Td HA2.out ⟨dA,dn,dc,ds,lA,ln,lc,ls⟩)
 go_wp2_with fail
 clear x0 x1 hmm
 generalize World.alloc (World.alloc (World.alloc (World.alloc w2 _) _) _) _=w6 at*
 have ig:=hide (HB2.out.trans (jM.out.2.2.mono HB2.out.size))
 have gD:=hide (bO.out.below jM.out.2.2)
 generalize w2.heap.size=N at*
 generalize N+1+1+1=rd at*
 generalize N+1+1=nm at*
 generalize N+1=mk at*
 refine(MX w6 w1.heap.size g (lM 14 most) [N] mk 0 rd ⟨dA,dn,dc,ds,lA,ln,lc,ls⟩ (.map none) nm _ _ jM.out.1 rfl (pQ.out w6 ig.out _ HB1.out.size) HD.out.1 HD.out.2.2 HD.out.2.1 P HP.out.1).mono ?_
 rintro e w7 ⟨rfl,A7,e7,Mn7,hrd,hx7,abH,QD,he7⟩
 have Yg:=hide (NS.start (base:=W.heap.size) (n:=⟨dA,dn,dc,ds,lA,ln,lc,ls⟩) (by
  have h0:=hrd
  rw[show iL (aH.au ⟨dA,dn,dc,ds,lA,ln,lc,ls⟩) (aH.ls ⟨dA,dn,dc,ds,lA,ln,lc,ls⟩) (fun _ _=>false) (aH.dn ⟨dA,dn,dc,ds,lA,ln,lc,ls⟩)=aR (aH.au ⟨dA,dn,dc,ds,lA,ln,lc,ls⟩) ls 0 from by
   unfold aR Tc;rw[show(aH.au ⟨dA,dn,dc,ds,lA,ln,lc,ls⟩).length =dn from by simp only[aH.au,List.length_map];exact qg.out]]at h0
  exact h0) (jM.out.2.1.kp QD (by simp)))
 have kE:=hide (ig.out.trans (QD.low.mono HB1.out.size))
 have uZ:=hide (gD.out.same (QD.low.block _ (Nat.lt_of_lt_of_le cK.out.lt (Nat.le_refl _))))
 have HV7:=hide (show A7.vars=14 from hx7.vars)
 have HE7:=hide (And.intro hx7 abH)
 clear hrd hx7 abH QD he7 jM ig gD bO HA2
 go_wp2_with fail
 clear HB2
 generalize e7=er at*
 go_loopg [10] ((bG ls).length *16384 - oZ (aR (ds.map aA.dev) ls 0) (bG ls)) (fun m u wr=>∃(k rd:Nat) (eG:Value) (nm:Nat) (A:St) (er:Nat) (v:Value) (L:List gQ) (Mn:dB→Option Value),u= .pointer (some ⟨rd,0,none⟩)∧Hid (NS wr w1.heap.size g A N W.heap.size v L k mk er rd ⟨dA,dn,dc,ds,lA,ln,lc,ls⟩ eG nm Mn)∧Hid (m=(bG ls).length *16384 - oZ (aR (ds.map aA.dev) ls k) (bG ls))∧Hid (k+m≤491520)∧Hid (RowKit.Below W.heap.size W wr)∧Hid (Bx wr W.heap.size #[.slice dA dn dc,.slice lA ln lc] 25)∧Hid (A.vars=14)∧Hid (Ext (lM 14 most) A∧pV P (lM 14 most) A)∧Hid (∀j,j<k→aR (ds.map aA.dev) ls (j+1)≠aR (ds.map aA.dev) ls j))
 case atStart=>exact⟨0,rd,.map none,nm,A7,er,.slice none 0 0,[],Mn7,rfl,Yg,hide rfl,hide (by have h1:=HD.out.2.1.len;have h2:=DJ ls;omega),kE,uZ,HV7,HE7,hide (fun j hj=>absurd hj (Nat.not_lt_zero _))⟩
 case round=>
  clear Yg kE uZ HV7 HE7
  obtain⟨k,rd',eG,nm',A,FL,v,L,Mn,rfl,HN,HMU,HKM,HB,HX,HV,HE,HUP⟩:=hrel
  have HER:=hide HN.out.bF.m.er
  have HLS:=hide HN.out.ls
  obtain⟨i0,hi0,hz0,hz1,hz2⟩:=info_parts Tryz.infoSum
  have HQ:=hide (fun(w':World) (h1:Bx w' N #[v,.pointer (some ⟨g,0,none⟩)] 115) (h2:Bx w' rd' #[.pointer (some ⟨mk,0,none⟩),.slice dA dn dc,.slice lA ln lc,eG,.map (some nm')] 122)=>
   show w'.cell? ⟨N,0,none⟩=some v∧w'.cell? ⟨rd',4,none⟩=some (.map (some nm'))from⟨h1.get 0 _ rfl,h2.get 4 _ rfl⟩)
  go_wp2_with fail
  have fH:=hide (HN.out.su.below (RowKit.Below.refl _ _).drew)
  have HR1:=hide (HN.out.bF.below (RowKit.Below.refl _ _).drew)
  refine aI (fun w'=>w'.cell? ⟨N,0,none⟩=some v∧w'.cell? ⟨rd',4,none⟩=some (.map (some nm'))) 13 (by kernel_rfl) (HQ.out _ fH.out.bx HR1.out.bx) (fun hS=>?_)
  refine rP 0 hS ?_
  refine rP 1 hS ?_
  refine rP 2 hS ?_
  refine rP 3 hS ?_
  refine rL 4 [10,13] rfl hS (by intro w hSw;obtain⟨s0,s1⟩:=hSw;go_simp;try with_reducible rfl) ?_
  refine rP 5 hS ?_
  refine rP 6 hS ?_
  refine rP 7 hS ?_
  refine rL 8 [9,10,13] rfl hS (by intro w hSw;obtain⟨s0,s1⟩:=hSw;go_simp;try with_reducible rfl) ?_
  intro inv
  refine rO 9 inv fun K hK=>?_
  go_simp
  have hb4:RowKit.Below wr.heap.size wr (wr.alloc (.cells #[.map (some nm')] 120)).drew :=((RowKit.Below.refl _ _).alloc (Nat.le_refl _) _).drew
  have dW:=hide (show Bx (wr.alloc (.cells #[.map (some nm')] 120)).drew wr.heap.size #[.map (some nm')] 120 from Bx.new wr #[.map (some nm')] 120)
  have oK:=hide (HN.out.su.below hb4)
  have HR4:=hide (HN.out.bF.below hb4)
  have hs4:(wr.alloc (.cells #[.map (some nm')] 120)).drew.heap.size =wr.heap.size+1:=by simp
  have hBs:=HB.out.size
  have abJ:=hide (HX.out.below hb4)
  have abK:=hide (HB.out.trans (hb4.mono hBs))
  clear hb4 fH HR1
  refine hK.out _ _ (fun _=>HQ.out _ oK.out.bx HR4.out.bx) ?_
  clear hK K hS inv
  intro inv
  try simp only[Act.put,aD,aF,aG]
  generalize World.drew _=w4 at*
  have hS:=HQ.out _ oK.out.bx HR4.out.bx
  have hnr:=HN.out.bF.ne
  have hma:=HN.out.bF.m.ap
  simp only[List.mem_append,List.mem_cons,List.not_mem_nil,or_false,not_or]at hnr hma
  have HNE:=hide (And.intro hnr hma)
  clear hnr hma
  have hLk:L.length=k:=by have:=congrArg List.length HN.out.ls;simpa using this
  have Ou:L.length≤491520:=by have:=HKM.out;omega
  have dV:=hide hLk
  clear hLk
  refine rO 10 inv fun K hK=>?_
  rw[if_pos (by rfl)]
  refine kY _ (.tmp 41) (.tmp 46) 113 rfl W.heap.size 120 i0 _ 1 8 Tryz.underlying113 hi0 hz0 hz1 hz2 rfl (by omega) v L.length (L.map fun e=>.map (some e.blk)) rfl oK.out.own (wr.heap.size+1) (some ⟨wr.heap.size,0,none⟩) 1 1 [.map (some nm')] rfl (Te dW.out) (fun u hu=>by simp at hu;subst hu;rfl) (by unfold maxLen;omega) (by omega) (by omega) ?_
  intro v5 w5 hown5 hg5 mO
  obtain⟨g5,c5,rfl,_⟩:=hown5.form (by omega)
  have QE:=oK.out.grow hown5 hg5 mO
  have hps:=oK.out.push (e:=⟨nm',Mn,aR (ds.map aA.dev) ls k⟩) hown5 hg5 mO (by simp) HR4.out.mn ⟨HR4.out.ints,HR4.out.keys,HR4.out.sn⟩
  have jL:=hide hps
  have vQ:=hide (oK.out.bx.kp QE (by simp))
  have lN:=hide (HR4.out.bx.kp QE (by simp))
  have uV:=hide (HR4.out.m.bx.kp QE (by simp))
  have RL:w5.frozen? ⟨N,0,none⟩=false:=vQ.out.frozen 0
  have s0:w5.cell? ⟨N,0,none⟩=some v:=vQ.out.get 0 _ rfl
  clear hown5 hg5 mO QE hps hS
  refine hK.out _ _ (fun _=>HQ.out _ vQ.out lN.out) ?_
  clear hK K inv
  intro inv
  try simp only[Act.put,aD,aF,aG]
  have hS:=HQ.out _ vQ.out lN.out
  revert inv
  refine rP 11 hS ?_
  refine rP 12 hS ?_
  intro inv
  refine rT 13 inv fun K hK=>?_
  go_simp
  refine hK.out _ _ ?_
  clear hK K inv
  intro inv
  try simp only[Act.put,aD,aF,aG]
  refine rD ?_
  clear inv
  clear s0 RL hS
  have hKP:=jL.out.2
  have iV:=hide (lN.out.far ⟨N,0,none⟩ (.slice (some ⟨g5,0,none⟩) (L.length+1) c5) (by have:=HN.out.su.ne;simp only[List.mem_append,List.mem_cons,not_or]at this;exact fun e=>this.1.1 e.symm))
  have EO:=hide (uV.out.far ⟨N,0,none⟩ (.slice (some ⟨g5,0,none⟩) (L.length+1) c5) (by have:=HN.out.su.ne;simp only[List.mem_append,List.mem_cons,not_or]at this;exact fun e=>this.1.2.2.1 e.symm))
  clear hKP vQ lN uV hs4
  generalize World.setCell w5 _ _=w6' at*
  have gD:=hide (abJ.out.same (jL.out.2.low.block _ cK.out.lt))
  have ig:=hide (abK.out.trans (jL.out.2.low.mono HB1.out.size))
  have abM:=hide jL.out.1
  clear jL abJ abK oK HR4 dW HN HB HX hBs
  generalize Value.slice (some ⟨g5,0,none⟩) (L.length+1) c5=v6 at*
  go_wp2_with fail
  have TJ:=hide (fun(w':World) (h1:Bx w' rd' #[.pointer (some ⟨mk,0,none⟩),.slice dA dn dc,.slice lA ln lc,eG,.map (some nm')] 122) (h2:Bx w' W.heap.size #[.slice dA dn dc,.slice lA ln lc] 25)=>
   show w'.cell? ⟨rd',0,none⟩=some (.pointer (some ⟨mk,0,none⟩))∧w'.cell? ⟨rd',4,none⟩=some (.map (some nm'))∧w'.cell? ⟨W.heap.size,0,none⟩=some (.slice dA dn dc)∧w'.cell? ⟨W.heap.size,1,none⟩=some (.slice lA ln lc)from⟨h1.get 0 _ rfl,h1.get 4 _ rfl,h2.get 0 _ rfl,h2.get 1 _ rfl⟩)
  have gY:=hide (iV.out.below (RowKit.Below.refl _ _).drew)
  have Ia:=hide (EO.out.below (RowKit.Below.refl _ _).drew)
  have uZ:=hide (gD.out.below (RowKit.Below.refl _ _).drew)
  have qW:=hide (abM.out.below (RowKit.Below.refl _ _).drew)
  have kE:=hide (ig.out.trans ((RowKit.Below.refl _ _).drew.mono ig.out.size))
  clear iV EO gD abM ig
  refine aI (fun w'=>w'.cell? ⟨rd',0,none⟩=some (.pointer (some ⟨mk,0,none⟩))∧w'.cell? ⟨rd',4,none⟩=some (.map (some nm'))∧w'.cell? ⟨W.heap.size,0,none⟩=some (.slice dA dn dc)∧w'.cell? ⟨W.heap.size,1,none⟩=some (.slice lA ln lc)) 16 (by kernel_rfl) (TJ.out _ gY.out uZ.out) (fun hS=>?_)
  refine rP 0 hS ?_
  refine rP 1 hS ?_
  refine rP 2 hS ?_
  refine rL 3 [14,15,16] rfl hS (by intro w hSw;obtain⟨s0,s1,s2,s3⟩:=hSw;go_simp;try with_reducible rfl) ?_
  refine rL 4 [14,15,16] rfl hS (by intro w hSw;obtain⟨s0,s1,s2,s3⟩:=hSw;go_simp;try with_reducible rfl) ?_
  refine rP 5 hS ?_
  refine rP 6 hS ?_
  refine rP 7 hS ?_
  refine rL 8 [14,15,16] rfl hS (by intro w hSw;obtain⟨s0,s1,s2,s3⟩:=hSw;go_simp;try with_reducible rfl) ?_
  refine rP 9 hS ?_
  refine rP 10 hS ?_
  refine rP 11 hS ?_
  refine rL 12 [13,14,15,16] rfl hS (by intro w hSw;obtain⟨s0,s1,s2,s3⟩:=hSw;go_simp;try with_reducible rfl) ?_
  intro inv
  refine rO 13 inv fun K hK=>?_
  go_simp
  have hent:=qW.out.ents ⟨nm',Mn,aR (ds.map aA.dev) ls k⟩ (by simp)
  refine(MZ _ nm' Mn hent.1 hent.2.ints (bG ls) (by have h1:=HD.out.2.1.len;have h2:=DJ ls;unfold maxLen;omega) hent.2.keys).mono ?_
  clear hent
  rintro en w8 ⟨qh,nb,hnb,rfl,J4⟩
  have iW:=hide (gY.out.below qh)
  have EP:=hide (Ia.out.below qh)
  have ER:=hide (uZ.out.below qh)
  have wW:=hide (qW.out.below qh)
  have rH:=hide (kE.out.trans (qh.mono kE.out.size))
  have GU:=hide (And.intro J4 hnb)
  have HA8:=hide (qW.out.sa.add qh.size (fun i hi _=>qh.block i hi) hnb J4.lt)
  have abN:=hide (fun hj=>(Nat.not_lt.2 hnb (qW.out.sa.lt nb hj).2:False))
  clear qh J4 hS hnb
  go_simp
  refine hK.out _ _ (fun _=>TJ.out _ iW.out ER.out) ?_
  clear hK K inv
  intro inv
  try simp only[Act.put,aD,aF,aG]
  have hS:=TJ.out _ iW.out ER.out
  revert inv
  refine rP 14 hS ?_
  intro inv
  refine rO 15 inv fun K hK=>?_
  go_simp
  have Wd:=VL (n:=⟨dA,dn,dc,ds,lA,ln,lc,ls⟩) (Mn:=Mn) (S:=aR (ds.map aA.dev) ls k) wW.out HA8.out EP.out HER.out (by simp) GU.out.1 (fun hj=>abN.out hj) HNE.out.2.1 (by
   have h1:=HNE.out.2.2.2.2.2
   have h2:=HNE.out.2.2.1
   simp only[List.map_append,List.map_cons,List.map_nil,List.mem_append,List.mem_singleton,not_or]
   exact⟨h1,h2⟩)
  have Aw:=hide Wd.1
  have HWN:=hide Wd.2
  have TK:=below_alloc2 w8 (.cells #[.pointer (some ⟨mk,0,none⟩),.slice dA dn dc,.slice lA ln lc,.map (some nm'),.map (some nb)] 122)
  have mQ:=hide (iW.out.below TK)
  have ES:=hide (ER.out.below TK)
  have jd:=hide ((wW.out.less (more':=[]) (by simp)).below TK)
  have AL:=hide (rH.out.trans (TK.mono rH.out.size))
  clear TK Wd iW ER wW rH HA8 abN EP GU gY Ia uZ qW kE hS
  simp only[aH.au,aH.ls]at Aw HWN
  generalize World.alloc w8 _=w9 at*
  generalize w8.heap.size=rn at*
  have hS:=TJ.out _ mQ.out ES.out
  refine hK.out _ _ (fun _=>hS) ?_
  clear hK K hS inv
  intro inv
  try simp only[Act.put,aD,aF,aG]
  refine rT 16 inv fun K hK=>?_
  go_simp
  refine hK.out _ _ ?_
  clear hK K inv
  intro inv
  try simp only[Act.put,aD,aF,aG]
  refine rD ?_
  clear inv
  clear HQ TJ
  go_wp2_with fail
  have hinv:=Aw.out.inv
  have HIV:=hide hinv
  clear hinv
  refine(Qh w9 w1.heap.size g A _ mk FL rn ⟨dA,dn,dc,ds,lA,ln,lc,ls⟩ nm' nb Mn Mn _ _ Aw.out HWN.out HV.out (pQ.out w9 AL.out _ HB1.out.size) HD.out.1 HD.out.2.2 HD.out.2.1 P (HP.out.2 k)).mono ?_
  rintro en ng ⟨rfl,ET,e10,uo,hrd,Bv,Yi,FY,Wh⟩
  have iF:=hide (show RD ng w1.heap.size g ET (rd'::(v6.ownBlock.toList++N::(L++[(⟨nm',Mn,aR (ds.map aA.dev) ls k⟩:gQ)]).map gQ.blk)) mk e10 rn ⟨dA,dn,dc,ds,lA,ln,lc,ls⟩ (.map (some nm')) nb uo (aR (ds.map aA.dev) ls (k+1))from by
   have h0:=hrd
   have e1:gF (ds.map aA.dev) ls (aR (ds.map aA.dev) ls k) (aR (ds.map aA.dev) ls k) dn=aR (ds.map aA.dev) ls (k+1):=QC (by simp only[List.length_map];exact qg.out)
   rw[← e1]
   exact h0)
  have Wi:=hide (jd.out.kept (FL:=e10) (iF.out.m.sa.mono (fun j hj=>by
   simp only[List.nil_append]at hj
   simp only[List.mem_cons]
   exact .inr (.inr (.inr (.inr hj))))) Bv (FY.mono (fun j hj=>by
   simp only[List.nil_append]at hj
   exact List.mem_cons_of_mem _ hj)) Wh)
  have qL:=hide (mQ.out.kp FY (by simp))
  have Aj:=hide (AL.out.trans (FY.low.mono HB1.out.size))
  have Bw:=hide (ES.out.same (FY.low.block _ cK.out.lt))
  have Wj:=hide (And.intro (HE.out.1.trans Bv) (HE.out.2.trans Yi HIV.out Bv))
  have QF:=hide (show ET.vars=14 from Bv.vars.trans HV.out)
  have afl:=hide Wh
  clear hrd Bv Yi FY Wh jd mQ AL ES HE HV Aw HWN HIV
  have her:=iF.out.m.er
  have c0:ng.cell? ⟨rn,0,none⟩=some (.pointer (some ⟨mk,0,none⟩)):=iF.out.bx.get 0 _ rfl
  rcases her with rfl | ⟨rfl,hfull⟩
  case inr=>
   have c1:ng.cell? ⟨mk,1,none⟩=some (.int .i64 6):=iF.out.m.bx.get 1 _ rfl
   have HF:=hide (fun(w':World) (hb:RowKit.Below ng.heap.size ng w')=>show BZ ⟨dA,dn,dc,ds,lA,ln,lc,ls⟩ most P W (.returned (.tuple #[.pointer none,.int .i64 6])) w' from⟨Aj.out.trans (hb.mono Aj.out.size),.inr ⟨ET,rfl,Wj.out.1,Wj.out.2,hfull⟩⟩)
   clear hfull
   have HK0:=hide c0
   have Bl:=hide c1
   go_wp2_with fail
   clear c0 c1
   refine bS (by kernel_rfl) (by kernel_rfl) ?_
   intro T hT gt hg1 hgi
   have aU:=hide hg1
   clear hg1 hgi
   have k0:∀t,(gt t).cell? ⟨rn,0,none⟩=some (.pointer (some ⟨mk,0,none⟩)):=fun t=>(iF.out.bx.below (aU.out t)).get 0 _ rfl
   have k1:∀t,(gt t).cell? ⟨mk,1,none⟩=some (.int .i64 6):=fun t=>(iF.out.m.bx.below (aU.out t)).get 1 _ rfl
   repeat (go_big_quiet_step (fail))
   refine wpQuiet_nil ?_
   intro _ hw'
   obtain⟨t,rfl⟩:=hw'
   have qY:=hide (HF.out _ (aU.out t))
   clear HF k0 k1
   generalize gt t=xg at*
   go_wp2
   go_ret2
   exact qY.out
  case inl=>
   have c1:ng.cell? ⟨mk,1,none⟩=some (.int .i64 0):=iF.out.m.bx.get 1 _ rfl
   obtain rfl:FL=0:=afl.out rfl
   have hent:=Wi.out.ents (⟨nm',Mn,aR (ds.map aA.dev) ls k⟩:gQ) (by simp)
   have Wl:=hide hent
   have Yj:=hide hent.2.ok
   have Ig:=hide (show nG ET uo (aR (ds.map aA.dev) ls (k+1)) (bG ls)from⟨iF.out.ints,iF.out.keys,fun x=>iF.out.sn rfl x⟩)
   clear hent
   obtain⟨r,hr⟩:∃r:Bool,r=true↔∀x,(uo x).isSome =true→bQ Mn x=bQ uo x:=by
    rcases Classical.em (∀x,(uo x).isSome =true→bQ Mn x=bQ uo x)with h | h
    ·exact⟨true,⟨fun _=>h,fun _=>rfl⟩⟩
    ·exact⟨false,⟨fun hh=>Bool.noConfusion hh,fun hh=>absurd hh h⟩⟩
   have GR:=hide hr
   clear hr
   go_wp2_with fail
   clear c0 c1
   refine bS (by kernel_rfl) (by kernel_rfl) ?_
   intro T hT gt hg1 hgi
   have aU:=hide hg1
   have gX:=hide hgi
   clear hg1 hgi
   have k0:∀t,(gt t).cell? ⟨rd',4,none⟩=some (.map (some nm')):=fun t=>(qL.out.below (aU.out t)).get 4 _ rfl
   have k1:∀t,(gt t).cell? ⟨rn,4,none⟩=some (.map (some nb)):=fun t=>(iF.out.bx.below (aU.out t)).get 4 _ rfl
   repeat (go_big_quiet_step ((go_at_call 59;exact mE aU.out gX.out (V9 _ nm' nb Mn uo (Wl.out.1.same ((aU.out _).block _ Wl.out.1.lt)) (iF.out.mn.same ((aU.out _).block _ iF.out.mn.lt)) Yj.out.ints Ig.out.ints r GR.out))))
   refine wpQuiet_nil ?_
   intro _ hw'
   obtain⟨t,rfl⟩:=hw'
   have Ak:=hide (iF.out.below (aU.out t))
   have abP:=hide (Wi.out.below (aU.out t))
   have Gy:=hide (Aj.out.trans ((aU.out t).mono Aj.out.size))
   have KG:=hide (Bw.out.below (aU.out t))
   generalize gt t=xg at*
   clear aU gX k0 k1 iF Wi Aj Bw qL Wl
   have nM:=hide (show(L++[(⟨nm',Mn,aR (ds.map aA.dev) ls k⟩:gQ)]).map gQ.S=(List.range (k+1)).map (aR (ds.map aA.dev) ls)from by
    rw[List.map_append,HLS.out,List.range_succ,List.map_append]
    rfl)
   cases r
   ·-- it went on
    have hne:∃x,(uo x).isSome =true∧bQ Mn x≠bQ uo x:=by
     have h2:¬_:=fun h=>Bool.noConfusion (GR.out.2 h)
     exact Classical.byContradiction (fun h=>h2 (fun x hx=>Classical.byContradiction (fun h3=>h ⟨x,hx,h3⟩)))
    obtain⟨x,hx,hd⟩:=hne
    obtain⟨hxk,hxd⟩:=Yj.out.diff Ak.out.inv Ig.out hx hd
    have hlt2:oZ (aR (ds.map aA.dev) ls k) (bG ls)<oZ (aR (ds.map aA.dev) ls (k+1)) (bG ls):=
     Ze (fun y=>Ig.out.below QF.out Ak.out.inv y) (fun y=>Yj.out.below QF.out Ak.out.inv y) (DU _ _ _) hxd _ hxk
    have hmx:=KZ (aR (ds.map aA.dev) ls (k+1)) (bG ls)
    have FJ:=hide (And.intro hlt2 hmx)
    have afm:=hide (show∀j,j<k+1→aR (ds.map aA.dev) ls (j+1)≠aR (ds.map aA.dev) ls j from fun j hj=>by
     rcases Nat.lt_succ_iff_lt_or_eq.1 hj with a | rfl
     ·exact HUP.out j a
     ·exact fun e=>hxd (by rw[e]))
    have hn1:=Ak.out.ne
    have hn2:=Ak.out.m.ap
    simp only[List.mem_cons,List.mem_append,not_or]at hn1 hn2
    have HNS:=hide (show NS xg w1.heap.size g ET N W.heap.size v6 (L++[(⟨nm',Mn,aR (ds.map aA.dev) ls k⟩:gQ)]) (k+1) mk 0 rn ⟨dA,dn,dc,ds,lA,ln,lc,ls⟩ (.map (some nm')) nb uo from
     ⟨Ak.out.less (fun j hj=>List.mem_cons_of_mem _ hj),abP.out.add [rn,nb,mk] (Ak.out.m.sa.mono (fun j hj=>by
      simp only[List.mem_append,List.mem_cons,List.not_mem_nil,or_false]at hj ⊢
      rcases hj with a | (a | a | a) | a | a
      ·exact .inr (.inr (.inr (.inr (.inl a))))
      ·exact .inr (.inl a)
      ·exact .inr (.inr (.inl a))
      ·exact .inl a
      ·exact .inr (.inr (.inr (.inr (.inr (.inl a)))))
      ·exact .inr (.inr (.inr (.inr (.inr (.inr a))))))) (fun q hq hm=>by
      have hqo:q∈v6.ownBlock.toList:=by simp[hq]
      simp only[List.mem_cons,List.not_mem_nil,or_false]at hm
      rcases hm with rfl | rfl | rfl
      ·exact hn1.2.1.2.1 hqo
      ·exact hn1.2.2.2.1 hqo
      ·exact hn2.2.2.2.1 hqo) (by
      simp only[List.mem_cons,List.not_mem_nil,or_false,not_or]
      exact⟨fun e=>hn1.2.1.2.2.1 e.symm,fun e=>hn1.2.2.2.2.1 e.symm,fun e=>hn2.2.2.2.2.1 e.symm⟩),nM.out⟩)
    have Ny:=HMU.out
    have hkm:=HKM.out
    have HG2:=hide (show(bG ls).length *16384 - oZ (aR (ds.map aA.dev) ls (k+1)) (bG ls)<gk∧k+1+((bG ls).length *16384 - oZ (aR (ds.map aA.dev) ls (k+1)) (bG ls))≤491520 from by omega)
    clear hlt2 hmx hx hd hxk hxd hn1 hn2 Ny hkm
    go_wp2_with fail
    go_roundg ((bG ls).length *16384 - oZ (aR (ds.map aA.dev) ls (k+1)) (bG ls))
    case measure=>exact HG2.out.1
    case rel=>exact⟨k+1,rn,.map (some nm'),nb,ET,0,v6,L++[(⟨nm',Mn,aR (ds.map aA.dev) ls k⟩:gQ)],uo,rfl,HNS,hide rfl,hide HG2.out.2,Gy,KG,QF,Wj,afm⟩
   ·have hall:=GR.out.1 rfl
    have HFX:=hide (show aR (ds.map aA.dev) ls (k+1)=aR (ds.map aA.dev) ls k from funext fun x=>Yj.out.same Ig.out (DU _ _ _) hall x)
    clear hall
    have hlen:(L++[(⟨nm',Mn,aR (ds.map aA.dev) ls k⟩:gQ)]).length =k+1:=by rw[List.length_append,dV.out];rfl
    obtain⟨sA,sc,hre,hlo1,hlo2,hlo3⟩:=abP.out.reach QF.out (by omega) (by have:=HKM.out;omega)
    have hlo0:=HB1.out.size
    have HF:=hide (show BZ ⟨dA,dn,dc,ds,lA,ln,lc,ls⟩ most P W (.returned (.tuple #[.pointer (some ⟨N,0,none⟩),.int .i64 0])) xg from
     ⟨Gy.out,.inl ⟨N,k,rfl,⟨⟨_,_,_,_,_,_,hre,nM.out,hlo0,by omega,hlo1,fun e he=>by have:=hlo3 e he;omega⟩,HFX.out,HUP.out⟩⟩⟩)
    clear hre hlen hlo0 hlo1 hlo2 hlo3
    go_wp2
    go_ret2
    exact HF.out
end Go.Proofs.YtlhmdcgckocidaaGreat
