/- A part of the proof: Sw6. -/
import Derived.Test.YtifkacnoiocebaaGreatDz41
import Derived.Great.BuildSlice
set_option linter.unusedVariables false
set_option linter.unusedSimpArgs false
set_option maxRecDepth 100000
set_option maxHeartbeats 16000000
namespace Go.Proofs.YtifkacnoiocebaaGreat
open Go.Maps Go.RowKit Go.WideElems
theorem Tryz.infoIntS:(Tryz.prog.info? 3).map (fun i=>(i.zero,i.size,i.bytes))=some (some (.int .i64 0),1,8):=by kernel_rfl
theorem xW (w:World) (v:Value):Reads (w.alloc (.cells #[v] 3)) (w.alloc (.cells #[v] 3)).heap.size 1 (some ⟨w.heap.size,0,none⟩) 1 [v]:=
 ⟨rfl,fun _=>⟨_,rfl,by simp,fun j u hu=>by
   rw[addr_add,Nat.zero_add,cell_of_row _ _ _ _ _ _ (heap_alloc_new w _)]
   simpa using hu⟩⟩
theorem Ur (nm:ByteArray) (kd ad pl:Int) (bA rA tA:Option Addr) (bn bc rn rc tn tc:Nat):
  Instr.fill (fun i=>some (i*7,7)) ((Array.range (1*7)).map ((Value.agg #[.string ⟨#[]⟩,.int .i64 0,.int .i64 0,.int .u8 0,.slice none 0 0,.slice none 0 0,.slice none 0 0]).cells[· % (Value.agg #[.string ⟨#[]⟩,.int .i64 0,.int .i64 0,.int .u8 0,.slice none 0 0,.slice none 0 0,.slice none 0 0]).cells.size]!)) [(0,.agg #[.string nm,.int .i64 kd,.int .i64 ad,.int .u8 pl,.slice bA bn bc,.slice rA rn rc,.slice tA tn tc])]=some #[.string nm,.int .i64 kd,.int .i64 ad,.int .u8 pl,.slice bA bn bc,.slice rA rn rc,.slice tA tn tc]:=by kernel_rfl
theorem Lv (n:aC) (i0:Nat) (v:Nat→Bool) (W:World) (hn:bq W W.heap.size n) (hE:fq n.au n.ls=0) (hi:i0<n.dn) (hv:jf n.ls i0 v):
  Calls Tryz.prog 18 #[n.val,.int .i64 (i0:Int)] W (XF n v W):=by
 have HN:=hide hn
 have HV:=hide hv
 have HE:=hide hE
 have HI0:=hide hi
 have hdn:n.dn≤10:=by have h1:=(mK hE).dl;have h2:=hn.iK;simp only[aC.au,List.length_map]at h1;omega
 have hln:n.ln≤15:=by have h1:=(mK hE).ll;have h2:=hn.llen;omega
 simp only[aC.val]at*
 clear hn hv hE hi
 go_enter Tryz.func18,Tryz.ntmps18
 go_wp2_with fail
 have gH:=hide (show SW W n [i0] (W.heap.size+2) 1 (((W.alloc (.cells #[.slice n.dA n.dn n.dc,.slice n.lA n.ln n.lc] 25)).alloc (.cells #[.slice none 0 0,.slice none 0 0] 25)).alloc (.cells #[.int .i64 (i0:Int)] 3))∧NL n.ls n.dn i0 v 0 0 [i0]from by
  refine⟨⟨((RowKit.Below.refl _ _).alloc (Nat.le_refl _) _ |>.alloc (by simp) _).alloc (by simp;omega) _,((Bx.new W _ _).below (below_alloc2 _ _)).below (below_alloc2 _ _),?_,?_⟩,NL.start HV.out HI0.out⟩
  ·have h1:=(Bx.new (W.alloc (.cells #[.slice n.dA n.dn n.dc,.slice n.lA n.ln n.lc] 25)) #[.slice none 0 0,.slice none 0 0] 25).below (below_alloc2 _ (.cells #[.int .i64 (i0:Int)] 3))
   simpa using h1
  ·have h1:=Bx.new ((W.alloc (.cells #[.slice n.dA n.dn n.dc,.slice n.lA n.ln n.lc] 25)).alloc (.cells #[.slice none 0 0,.slice none 0 0] 25)) #[.int .i64 (i0:Int)] 3
   have h2:((W.alloc (.cells #[.slice n.dA n.dn n.dc,.slice n.lA n.ln n.lc] 25)).alloc (.cells #[.slice none 0 0,.slice none 0 0] 25)).heap.size =W.heap.size+2:=by simp
   rw[h2]at h1
   exact XD (e:=0) h1 (Nat.le_refl _))
 generalize World.alloc (World.alloc (World.alloc W _) _) _=W3 at*
 go_loopw [6,7] (fun nv iv wr=>∃(i g c:Nat) (N:List Nat),i≤N.length∧iv= .int .i64 (i:Int)∧nv= .slice (some ⟨g,0,none⟩) N.length c∧Hid (SW W n N g c wr∧NL n.ls n.dn i0 v i 0 N)) (fun _ iv _=>n.dn - (intOf iv).toNat)
 case atStart=>exact⟨0,W.heap.size+2,1,[i0],by simp,rfl,rfl,gH⟩
 case round=>
  clear gH
  obtain⟨i,g,c,N,hiN,rfl,rfl,HS⟩:=hrel
  have xK:N.length≤n.dn:=lT HS.out.2.nd HS.out.2.lt
  by_cases hil:i<N.length
  case neg=>
   obtain rfl:i=N.length:=by omega
   as_aux_lemma=>
    have HOM:=hide (NL.all HV.out HS.out.2)
    have Z0:=hide (show N.Nodup∧∀x∈N,x<n.dn from⟨HS.out.2.nd,HS.out.2.lt⟩)
    have HSO:=hide (Qn wr (W.heap.size+2) g N.length c N HS.out.1.own (by omega))
    go_wp2_with fail
    refine HSO.out.mono ?_
    rintro e w1 ⟨rfl,X,hR,hS⟩
    obtain⟨O,hO⟩:∃O,O=bM v n.dn:=⟨_,rfl⟩
    obtain rfl:X=O:=by rw[hO];exact NH hR.pm (by rw[hR.pm.length_eq];exact hS) Z0.out.1 Z0.out.2 HOM.out
    have hle:N.length=X.length:=hR.pm.length_eq.symm
    have eY:=hide (SR.start HS.out.1 hR)
    have HX:=hide hO
    rw[hle]
    clear HSO HOM Z0 HS hR hS hO
    have afS:X.length≤10:=by omega
    have Wz:=hide (fun x=>show x∈X↔x<n.dn∧v x=true from by rw[HX.out];exact KI)
    have Z4:=hide (show∀x∈X,x<1000 from fun x hx=>by have:=((Wz.out x).1 hx).1;omega)
    clear hil xK hle hiN
    go_wp2_with fail
    go_loopw [10] (fun iv wr=>∃(k:Nat) (V:Value) (ds':List ak),k≤X.length∧iv= .int .i64 (k:Int)∧Hid (SR W n X g c V (.slice none 0 0) ds' [] wr)∧Hid (ds'=(X.take k).filterMap fun i=>n.ds[i]?)) (fun iv _=>X.length - (intOf iv).toNat)
    case atStart=>exact⟨0,_,[],Nat.zero_le _,rfl,eY,hide rfl⟩
    case round=>
     clear eY
     obtain⟨k,V,ds',hk,rfl,HS,HD⟩:=hrel
     by_cases hkl:k<X.length
     case pos=>
      as_aux_lemma=>
       obtain⟨x,hx⟩:∃x,X[k]?=some x:=⟨_,List.getElem?_eq_getElem hkl⟩
       have hxd:(x:Int)<(n.dn:Int):=by have:=((Wz.out x).1 (List.mem_of_getElem? hx)).1;omega
       obtain⟨r,hr⟩:∃r,n.ds[x]?=some r:=⟨_,List.getElem?_eq_getElem (by have:=HN.out.iK;omega)⟩
       obtain⟨b,o,gK,_,_⟩:=HN.out.ds.2 (by omega)
       have kD:b<W.heap.size:=by
        have h1:=HN.out.ds
        rw[gK]at h1
        exact(fP h1 hr).1
       have Ql:=hide (show ds'++[r]=(X.take (k+1)).filterMap fun i=>n.ds[i]? from by rw[Rz hx hr,HD.out])
       obtain⟨nm,kd,ad,pl,bA,bn,bc,bs,rA,rn,rc,rs,tA,tn,tc,ts⟩:=r
       have HQ:=hide (fun(w':World) (hs:SR W n X g c V (.slice none 0 0) ds' [] w')=>show w'.cell? ⟨W.heap.size+1,0,none⟩=some V∧w'.cell? ⟨W.heap.size,0,none⟩=some (.slice (some ⟨b,o,none⟩) n.dn n.dc)∧w'.cell? ⟨g,k,none⟩=some (.int .i64 (x:Int))∧
         w'.cell? ⟨b,o+x*7,none⟩=some (.string nm)∧w'.cell? ⟨b,o+x*7+1,none⟩=some (.int .i64 kd)∧w'.cell? ⟨b,o+x*7+2,none⟩=some (.int .i64 ad)∧w'.cell? ⟨b,o+x*7+3,none⟩=some (.int .u8 pl)∧w'.cell? ⟨b,o+x*7+4,none⟩=some (.slice bA bn bc)∧w'.cell? ⟨b,o+x*7+5,none⟩=some (.slice rA rn rc)∧w'.cell? ⟨b,o+x*7+6,none⟩=some (.slice tA tn tc)from by
        have hna:=(HN.out.below hs.bl (Nat.le_refl _)).ds
        rw[gK]at hna
        have h0:w'.cell? ⟨W.heap.size,0,none⟩=some (.slice n.dA n.dn n.dc):=hs.nx.get 0 _ rfl
        rw[gK]at h0
        exact⟨hs.ox.get 0 _ rfl,h0,hs.cell hx,(fP hna hr).2⟩)
       have acI:ds'.length≤10:=by
        have h1:=congrArg List.length HD.out
        have h3:=List.length_filterMap_le (fun i=>n.ds[i]?) (X.take k)
        have h4:=List.length_take_le k X
        omega
       have hkI:(k:Int)<(X.length:Int):=by omega
       clear hr hx gK
       go_wp2_with fail
       have hdr:=(Below.refl wr.heap.size wr).drew
       have fV:=hide (HS.out.below hdr)
       clear hdr HS HD
       refine aY (fun w'=>w'.cell? ⟨W.heap.size+1,0,none⟩=some V∧w'.cell? ⟨W.heap.size,0,none⟩=some (.slice (some ⟨b,o,none⟩) n.dn n.dc)∧w'.cell? ⟨g,k,none⟩=some (.int .i64 (x:Int))∧
         w'.cell? ⟨b,o+x*7,none⟩=some (.string nm)∧w'.cell? ⟨b,o+x*7+1,none⟩=some (.int .i64 kd)∧w'.cell? ⟨b,o+x*7+2,none⟩=some (.int .i64 ad)∧w'.cell? ⟨b,o+x*7+3,none⟩=some (.int .u8 pl)∧w'.cell? ⟨b,o+x*7+4,none⟩=some (.slice bA bn bc)∧w'.cell? ⟨b,o+x*7+5,none⟩=some (.slice rA rn rc)∧w'.cell? ⟨b,o+x*7+6,none⟩=some (.slice tA tn tc)) 11 (by kernel_rfl) (HQ.out _ fV.out) (fun hS inv=>?_)
       generalize World.drew wr=wd at*
       revert inv
       refine rP 0 hS ?_
       refine rL 1 [11] rfl hS (by intro w hSw;obtain⟨s0,s1,s2,s3,s4,s5,s6,s7,s8,s9⟩:=hSw;go_simp;try with_reducible rfl) ?_
       refine rP 2 hS ?_
       refine rL 3 [8,9,10,11] rfl hS (by intro w hSw;obtain⟨s0,s1,s2,s3,s4,s5,s6,s7,s8,s9⟩:=hSw;go_simp;try with_reducible rfl) ?_
       refine rP 4 hS ?_
       refine rP 5 hS ?_
       refine rP 6 hS ?_
       refine rL 7 [8,9,10,11] rfl hS (by intro w hSw;obtain⟨s0,s1,s2,s3,s4,s5,s6,s7,s8,s9⟩:=hSw;go_simp;try with_reducible rfl) ?_
       refine rP 8 hS ?_
       refine rL 9 [10,11] rfl hS (by intro w hSw;obtain⟨s0,s1,s2,s3,s4,s5,s6,s7,s8,s9⟩:=hSw;go_simp;try with_reducible rfl) ?_
       intro inv
       refine rO 10 inv fun K hK=>?_
       rw[if_pos (by rfl)]
       obtain⟨tZ,hi0,hz0,hz1,hz2⟩:=info_parts Tryz.infoDevice
       refine wp_buildSlice 22 81 1 #[(0,.tmp 88)] rfl #[.string nm,.int .i64 kd,.int .i64 ad,.int .u8 pl,.slice bA bn bc,.slice rA rn rc,.slice tA tn tc] tZ _ Tryz.underlying22 hi0 hz0 (by rw[hz1];omega) (by rw[hz1];omega) (by rw[hz1,Array.toList_map];exact Ur nm kd ad pl bA rA tA bn bc rn rc tn tc) ?_
       have Ga:=below_alloc2 wd (.cells #[.string nm,.int .i64 kd,.int .i64 ad,.int .u8 pl,.slice bA bn bc,.slice rA rn rc,.slice tA tn tc] 81)
       have mM:=hide (Bx.new wd #[.string nm,.int .i64 kd,.int .i64 ad,.int .u8 pl,.slice bA bn bc,.slice rA rn rc,.slice tA tn tc] 81)
       have jg:=hide (fV.out.below Ga)
       have Nz:(wd.alloc (.cells #[.string nm,.int .i64 kd,.int .i64 ad,.int .u8 pl,.slice bA bn bc,.slice rA rn rc,.slice tA tn tc] 81)).heap.size =wd.heap.size+1:=by simp
       clear Ga fV hS
       generalize World.alloc wd _=jN at*
       have hS:=HQ.out _ jg.out
       refine hK.out _ _ (fun _=>hS) ?_
       clear hK K hS inv
       intro inv
       try simp only[Act.put,aK,aL,aM]
       have X5:W.heap.size+2≤jN.heap.size:=jg.out.size
       refine rT 11 inv fun K hK=>?_
       rw[if_pos (by rfl)]
       refine nP _ (.tmp 80) (.tmp 89) 22 rfl (W.heap.size+2) 81 tZ _ 7 112 Tryz.underlying22 hi0 hz0 hz1 hz2 rfl (by omega) V ds'.length (ds'.flatMap ak.cells) rfl jg.out.dev (wd.heap.size+1) (some ⟨wd.heap.size,0,none⟩) 1 1 (ak.cells ⟨nm,kd,ad,pl,bA,bn,bc,bs,rA,rn,rc,rs,tA,tn,tc,ts⟩) rfl ⟨rfl,fun _=>⟨_,rfl,Nat.lt_succ_self _,fun j' u hu=>by
        rw[addr_add,Nat.zero_add]
        exact mM.out.get j' u (by simpa[ak.cells]using hu)⟩⟩ (ak.one _) (by simp only[maxLen];omega) (by omega) (by omega) ?_
       intro v9 w9 jX qp sj
       obtain⟨g9,d9,rfl,_⟩:=jX.form (by omega)
       have GV:=hide (show Bx w9 (W.heap.size+1) #[V,.slice none 0 0] 25 from jg.out.ox.same (bY qp jg.out.ox.lt (fun e=>by have:=(jg.out.dev.lt _ e).1;omega)))
       have fM:=hide (jg.out.F9 (d:=⟨nm,kd,ad,pl,bA,bn,bc,bs,rA,rn,rc,rs,tA,tn,tc,ts⟩) jX qp sj)
       clear jX qp sj
       refine hK.out _ _ ?_
       clear hK K inv
       intro inv
       try simp only[Act.put,aK,aL,aM]
       refine rT 12 inv fun K hK=>?_
       go_simp
       refine hK.out _ _ ?_
       clear hK K inv
       intro inv
       try simp only[Act.put,aK,aL,aM]
       have s0:w9.cell? ⟨W.heap.size+1,0,none⟩=some V:=GV.out.get 0 _ rfl
       have f0:w9.frozen? ⟨W.heap.size+1,0,none⟩=false:=GV.out.frozen 0
       refine rT 13 inv fun K hK=>?_
       go_simp
       refine hK.out _ _ ?_
       clear hK K inv
       intro inv
       try simp only[Act.put,aK,aL,aM]
       refine rD ?_
       clear inv
       clear s0 f0 GV HQ
       go_wp2_with fail
       go_roundw
       case rel=>exact⟨k+1,_,_,by omega,by go_num,fM,hide Ql.out⟩
       case measure=>simp[intOf];omega
     case neg=>
      obtain rfl:k=X.length:=by omega
      have yD:=hide (show ds'.map ak.dev=bP v n.au n.dn from by rw[HD.out,List.take_length,HX.out];exact Uq v n.ds n.dn)
      have V8:=hide (show∀d∈ds',d∈n.ds from by
       rw[HD.out]
       intro d hd
       obtain⟨i,_,hi⟩:=List.mem_filterMap.1 hd
       exact List.mem_of_getElem? hi)
      clear HD hk hkl
      go_wp2_with fail
      go_loopw [11] (fun jv wr=>∃(j:Nat) (L:Value) (ls':List ah),j≤n.ln∧jv= .int .i64 (j:Int)∧Hid (SR W n X g c V L ds' ls' wr)∧Hid (ls'=fH v n.dn (n.ls.take j))) (fun jv _=>n.ln - (intOf jv).toNat)
      case atStart=>exact⟨0,_,[],Nat.zero_le _,rfl,HS,hide rfl⟩
      case round=>
       clear HS
       obtain⟨j,L,ls',hj,rfl,HS,uf⟩:=hrel
       have n1:wr.cell? ⟨W.heap.size,1,none⟩=some (.slice n.lA n.ln n.lc):=HS.out.nx.get 1 _ rfl
       by_cases hjl:j<n.ln
       case pos=>
        as_aux_lemma=>
         obtain⟨r,hr⟩:∃r,n.ls[j]?=some r:=⟨_,List.getElem?_eq_getElem (by have:=HN.out.llen;omega)⟩
         obtain⟨lb,lo,hlA,_,_⟩:=HN.out.ls.2 (by omega)
         have hnw:=(HN.out.below HS.out.bl (Nat.le_refl _)).ls
         rw[hlA]at hnw n1
         obtain⟨_,q0,q1,q2,q3⟩:=oM hnw hr
         have hlin:=wT HE.out r (List.mem_of_getElem? hr)
         have j3:=hide (Er v n.dn hr)
         have hcl:=HV.out.closed r (List.mem_of_getElem? hr)
         clear hnw hr hlA
         obtain⟨ra,rp,rb,rq⟩:=r
         simp only at q0 q1 q2 q3 hlin hcl
         obtain⟨an,rfl⟩:∃an:Nat,ra=(an:Int):=⟨ra.toNat,by omega⟩
         obtain⟨bn,rfl⟩:∃bn:Nat,rb=(bn:Int):=⟨rb.toNat,by omega⟩
         simp only[Int.toNat_natCast]at hcl
         have Ie:=hide (show an<n.dn∧bn<n.dn from by
          have h2:n.au.length=n.dn:=by simp only[aC.au,List.length_map];exact HN.out.iK
          omega)
         have hjI:(j:Int)<(n.ln:Int):=by omega
         obtain⟨va,hva⟩:∃va,v an=va:=⟨_,rfl⟩
         have qo:=hide hva
         have Ht:=hide hcl
         obtain⟨LB,zk⟩:∃LB,wr.heap.size=LB:=⟨_,rfl⟩
         have sU:=hide (fun(w':World) (hb:Below LB wr w')=>show SR W n X g c V L ds' ls' w' from HS.out.below (by rw[zk];exact hb))
         have fJ:=hide (fun(w':World) (hb:Below LB wr w')=>show Calls Tryz.prog 46 #[.slice (some ⟨g,0,none⟩) X.length c,.int .i64 (an:Int)] w' (fun e W'=>e= .returned (.bool va)∧Below w'.heap.size w' W')from by
          have h:=iH (X.map fun(x:Nat)=>(x:Int)) (some ⟨g,0,none⟩) X.length c (an:Int) w' (by omega) (kN (sU.out w' hb).own Z4.out)
          have e:(X.map fun(x:Nat)=>(x:Int)).contains (an:Int)=va:=by
           rw[pX (by omega),Int.toNat_natCast,← qo.out,Bool.eq_iff_iff,decide_eq_true_eq,Wz.out]
           exact⟨fun h=>h.2,fun h=>⟨Ie.out.1,h⟩⟩
          rw[e]at h
          exact h)
         have M8:=hide (fun(w':World) (hb:Below LB wr w') (i:Nat) (hi:v i=true) (hd:i<n.dn)=>show Calls Tryz.prog 19 #[.slice (some ⟨g,0,none⟩) X.length c,.int .i64 (i:Int)] w' (fun e W'=>e= .returned (.int .i64 ((bH v n.dn i:Nat):Int))∧Below w'.heap.size w' W')from by
          have h:=vZ (X.map fun(x:Nat)=>(x:Int)) g 0 X.length c (i:Int) w' (by omega) (kN (sU.out w' hb).own Z4.out) (List.length_pos_of_mem ((Wz.out i).2 ⟨hd,hi⟩))
          have e:jy (fun y=>((i:Int)==y)) (X.map fun(x:Nat)=>(x:Int))=((bH v n.dn i:Nat):Int):=by rw[HX.out];exact M7 hi hd
          rw[e]at h
          exact h)
         clear hva hcl hlin
         have kF:=hide (show Below LB wr (wr.alloc (.cells #[.int .i64 (an:Int),.int .i64 rp,.int .i64 (bn:Int),.int .i64 rq] 85))from by rw[← zk];exact below_alloc2 wr _)
         have kG:=hide (show Bx (wr.alloc (.cells #[.int .i64 (an:Int),.int .i64 rp,.int .i64 (bn:Int),.int .i64 rq] 85)) LB #[.int .i64 (an:Int),.int .i64 rp,.int .i64 (bn:Int),.int .i64 rq] 85 from by rw[← zk];exact Bx.new wr _ _)
         go_wp2_with fail
         clear q0 q1 q2 q3 n1
         try rw[zk]
         generalize World.alloc wr _=w7 at*
         refine(fJ.out w7 kF.out).mono ?_
         rintro e w8 ⟨rfl,lN⟩
         have kP:=hide (kF.out.trans (lN.mono (by have:=kF.out.size;omega)))
         have rZ:=hide (kG.out.below lN)
         clear fJ kF kG lN
         have kF:=kP
         have kG:=rZ
         clear kP rZ
         cases va
         case false=>
          have jk:=hide (show ls'=fH v n.dn (n.ls.take (j+1))from by rw[j3.out,if_neg (by show¬v an=true;rw[qo.out];decide),List.append_nil];exact uf.out)
          have jR:=hide (sU.out w8 kF.out)
          go_wp2_with fail
          go_roundw
          case rel=>exact⟨j+1,L,ls',by omega,by go_num,jR,jk⟩
          case measure=>simp[intOf];omega
         case true=>
          have jk:=hide (show ls'++[II v n.dn ⟨(an:Int),rp,(bn:Int),rq⟩]=fH v n.dn (n.ls.take (j+1))from by rw[j3.out,if_pos (by show v an=true;exact qo.out),← uf.out])
          have CS:=hide (show v bn=true from by rw[← Ht.out];exact qo.out)
          clear j3 HS
          go_wp2_with fail
          have kP:=hide (kF.out.drew)
          have rZ:=hide (kG.out.below (Below.refl w8.heap.size w8).drew)
          clear kF kG
          refine aY (fun w'=>w'.cell? ⟨LB,0,none⟩=some (.int .i64 (an:Int))∧w'.cell? ⟨LB,2,none⟩=some (.int .i64 (bn:Int))) 9 (by kernel_rfl) ⟨rZ.out.get 0 _ rfl,rZ.out.get 2 _ rfl⟩ (fun hS inv=>?_)
          generalize World.drew w8=wd at*
          revert inv
          refine rP 0 hS ?_
          refine rP 1 hS ?_
          refine rP 4 hS ?_
          refine rP 5 hS ?_
          refine rL 2 [3,7,9] rfl hS (by intro w hSw;obtain⟨s0,s1⟩:=hSw;go_simp;try with_reducible rfl) ?_
          refine rL 6 [7,9] rfl hS (by intro w hSw;obtain⟨s0,s1⟩:=hSw;go_simp;try with_reducible rfl) ?_
          intro inv
          refine rO 3 inv fun K hK=>?_
          go_simp
          go_at_call 19
          refine(M8.out wd kP.out an qo.out Ie.out.1).mono ?_
          rintro e w5 ⟨rfl,hb5⟩
          have vD:=hide (kP.out.trans (hb5.mono (by have:=kP.out.size;have:=rZ.out.lt;omega)))
          have Dt:=hide (rZ.out.below hb5)
          clear hb5 kP rZ
          go_wp2_with fail
          refine hK.out _ _ (fun _=>⟨Dt.out.get 0 _ rfl,Dt.out.get 2 _ rfl⟩) ?_
          clear hK K hS inv
          intro inv
          try simp only[Act.put,aK,aL,aM]
          have hS:w5.cell? ⟨LB,0,none⟩=some (.int .i64 (an:Int))∧w5.cell? ⟨LB,2,none⟩=some (.int .i64 (bn:Int)):=⟨Dt.out.get 0 _ rfl,Dt.out.get 2 _ rfl⟩
          revert inv
          refine rP 8 hS ?_
          intro inv
          refine rO 7 inv fun K hK=>?_
          go_simp
          go_at_call 19
          refine(M8.out w5 vD.out bn CS.out Ie.out.2).mono ?_
          rintro e w6 ⟨rfl,hb6⟩
          have pz:=hide (vD.out.trans (hb6.mono (by have:=vD.out.size;have:=Dt.out.lt;omega)))
          have l6:=hide (Dt.out.below hb6)
          clear hb6 vD Dt
          go_wp2_with fail
          refine hK.out _ _ (fun _=>⟨l6.out.get 0 _ rfl,l6.out.get 2 _ rfl⟩) ?_
          clear hK K hS inv
          intro inv
          try simp only[Act.put,aK,aL,aM]
          have k0:=l6.out.get 0 _ rfl
          have f0:=l6.out.frozen 0
          refine rT 9 inv fun K hK=>?_
          go_simp
          refine hK.out _ _ ?_
          clear hK K inv
          intro inv
          try simp only[Act.put,aK,aL,aM]
          clear k0 f0
          have o9:=hide (l6.out.set 0 (.int .i64 ((bH v n.dn an:Nat):Int)))
          have zo:=hide (pz.out.setCell (p:=⟨LB,0,none⟩) (Nat.le_refl _) (.int .i64 ((bH v n.dn an:Nat):Int)))
          clear l6 pz
          generalize World.setCell w6 _ _=w7 at*
          have k2:=o9.out.get 2 _ rfl
          have f2:=o9.out.frozen 2
          refine rT 10 inv fun K hK=>?_
          go_simp
          refine hK.out _ _ ?_
          clear hK K inv
          intro inv
          try simp only[Act.put,aK,aL,aM]
          refine rT 11 inv fun K hK=>?_
          go_simp
          refine hK.out _ _ ?_
          clear hK K inv
          intro inv
          try simp only[Act.put,aK,aL,aM]
          clear k2 f2
          have kG:=hide (o9.out.set 2 (.int .i64 ((bH v n.dn bn:Nat):Int)))
          have kF:=hide (zo.out.setCell (p:=⟨LB,2,none⟩) (Nat.le_refl _) (.int .i64 ((bH v n.dn bn:Nat):Int)))
          clear o9 zo
          generalize World.setCell w7 _ _=w8 at*
          refine rD ?_
          clear inv
          have kG:=hide (show Bx w8 LB #[.int .i64 ((bH v n.dn an:Nat):Int),.int .i64 rp,.int .i64 ((bH v n.dn bn:Nat):Int),.int .i64 rq] 85 from kG.out)
          have jR:=hide (sU.out w8 kF.out)
          clear kF sU M8
          have jg:=hide (jR.out.below (below_alloc2 w8 (.cells #[.int .i64 ((bH v n.dn an:Nat):Int),.int .i64 rp,.int .i64 ((bH v n.dn bn:Nat):Int),.int .i64 rq] 85)))
          have mM:=hide (Bx.new w8 #[.int .i64 ((bH v n.dn an:Nat):Int),.int .i64 rp,.int .i64 ((bH v n.dn bn:Nat):Int),.int .i64 rq] 85)
          have k0:=kG.out.get 0 _ rfl
          have k1:=kG.out.get 1 _ rfl
          have k2:=kG.out.get 2 _ rfl
          have k3:=kG.out.get 3 _ rfl
          have x1:∀o1,(w8.alloc o1).cell? ⟨W.heap.size+1,1,none⟩=some L:=fun o1=>(jR.out.below (below_alloc2 w8 o1)).ox.get 1 _ rfl
          have x1':w8.cell? ⟨W.heap.size+1,1,none⟩=some L:=jR.out.ox.get 1 _ rfl
          obtain⟨tZ,hi0,hz0,hz1,hz2⟩:=info_parts Tryz.infoLink
          have X5:W.heap.size+2≤w8.heap.size:=jR.out.size
          have hll:ls'.length≤15:=by
           have h1:=congrArg List.length uf.out
           have h2:=List.length_filter_le (fun l=>v l.a.toNat) (n.ls.take j)
           have h3:=List.length_take_le j n.ls
           unfold fH at h1
           rw[List.length_map]at h1
           omega
          clear jR
          go_wp2_with (at_builtin;refine aT _ rfl (.tmp 119) (.tmp 121) 23 rfl (W.heap.size+2) 85 tZ _ 4 32 Tryz.underlying23 hi0 hz0 hz1 hz2 rfl (by omega) L ls'.length (ls'.flatMap ah.cells) rfl jg.out.j5 (w8.heap.size+1) (some ⟨w8.heap.size,0,none⟩) 1 1 (ah.cells ⟨((bH v n.dn an:Nat):Int),rp,((bH v n.dn bn:Nat):Int),rq⟩) rfl ⟨rfl,fun _=>⟨_,rfl,Nat.lt_succ_self _,fun j' u hu=>by rw[addr_add,Nat.zero_add];exact mM.out.get j' u (by simpa[ah.cells]using hu)⟩⟩ (ah.one _) (by simp only[maxLen];omega) (by omega) (by simp;omega) ?_;intro v9 w9 jX qp sj;obtain⟨g9,d9,rfl,_⟩:=jX.form (by omega);have HT:=hide (And.intro jX (And.intro qp sj));have Ep:=hide (jg.out.ox.same (bY qp jg.out.ox.lt (fun e=>by have:=(jg.out.j5.lt _ e).1;omega)));have y9:=Ep.out.get 1 _ rfl;have yf9:=Ep.out.frozen 1;clear jX qp sj)
          have fM:=hide (jg.out.DJ (l:=⟨((bH v n.dn an:Nat):Int),rp,((bH v n.dn bn:Nat):Int),rq⟩) HT.out.1 HT.out.2.1 HT.out.2.2)
          go_roundw
          case rel=>exact⟨j+1,_,ls'++[⟨((bH v n.dn an:Nat):Int),rp,((bH v n.dn bn:Nat):Int),rq⟩],by omega,by go_num,fM,hide jk.out⟩
          case measure=>simp[intOf];omega
       case neg=>
        obtain rfl:j=n.ln:=by omega
        obtain⟨A1,c1,rfl,hc1,hs1,hA1⟩:=bD.lC ak.len HS.out.dev rfl
        have hm1:c1≤maxLen:=uy HS.out.dev
        obtain⟨A2,c2,rfl,hc2,hs2,hA2⟩:=bD.lC ah.len HS.out.j5 rfl
        have hm2:c2≤maxLen:=uy HS.out.j5
        have JD:=hide (And.intro hs1 (And.intro hs2 (kN HS.out.own Z4.out)))
        have r0:=HS.out.ox.get 0 _ rfl
        have r1:=HS.out.ox.get 1 _ rfl
        have f2:=HS.out.ox.frozen 0
        have f3:=HS.out.ox.frozen 1
        clear hs1 hs2
        have hXe:=HX.out
        clear HX
        go_wp2
        have hbf:Below W.heap.size W ((wr.setCell ⟨W.heap.size+1,0,none⟩ (.slice A1 ds'.length c1)).setCell ⟨W.heap.size+1,1,none⟩ (.slice A2 ls'.length c2)):=(HS.out.bl.setCell (by show _≤W.heap.size+1;omega) _).setCell (by show _≤W.heap.size+1;omega) _
        have hst:bG (fun q=>q≠W.heap.size+1) wr ((wr.setCell ⟨W.heap.size+1,0,none⟩ (.slice A1 ds'.length c1)).setCell ⟨W.heap.size+1,1,none⟩ (.slice A2 ls'.length c2)):=(bG.kH ⟨W.heap.size+1,0,none⟩ _).trans (bG.kH ⟨W.heap.size+1,1,none⟩ _)
        have zH:(((wr.setCell ⟨W.heap.size+1,0,none⟩ (.slice A1 ds'.length c1)).setCell ⟨W.heap.size+1,1,none⟩ (.slice A2 ls'.length c2))).heap.size =wr.heap.size:=by simp[World.setCell]
        have hog:=(HS.out.own.lt g rfl).1
        have hlk:∀l∈ls',l.ok:=fun l hl=>by
         rw[uf.out]at hl
         unfold fH at hl
         obtain⟨l0,hl0,rfl⟩:=List.mem_map.1 hl
         have hm0:=List.mem_of_mem_take (List.mem_filter.1 hl0).1
         have h0:=HN.out.L6 l0 hm0
         have h1:=wT HE.out l0 hm0
         have h2:n.au.length=n.dn:=by simp only[aC.au,List.length_map];exact HN.out.iK
         have n1:=yM v n.dn l0.a.toNat
         have n2:=yM v n.dn l0.b.toNat
         refine⟨?_,h0.2.1,?_,h0.2.2.2⟩
         ·show aO ((bH v n.dn l0.a.toNat:Nat):Int)
          simp only[aO];omega
         ·show aO ((bH v n.dn l0.b.toNat:Nat):Int)
          simp only[aO];omega
        refine bodyPost_ret (v:=.tuple #[.agg #[.slice A1 ds'.length c1,.slice A2 ls'.length c2],.slice (some ⟨g,0,none⟩) X.length c]) (by simp[results,Tryz.f18,go_sem,r0,r1]) rfl ⟨⟨A1,ds'.length,c1,ds',A2,ls'.length,c2,ls'⟩,g,c,by rw[hXe];rfl,?_,yD.out,?_,?_,hbf⟩
        ·rw[zH]
         refine⟨JD.out.1.stay hst (fun a ha=>by have:=hA1 a ha;omega) (Nat.le_refl _),fun d hd=>?_,JD.out.2.1.stay hst (fun a ha=>by have:=hA2 a ha;omega) (Nat.le_refl _),hlk,⟨hc1,hm1⟩,⟨hc2,hm2⟩⟩
         have h9:=((HN.out.below hbf (Nat.le_refl _)).qW d (V8.out d hd)).below (Below.refl _ _) hbf.size
         rw[zH]at h9
         exact h9
        ·have h:=uf.out
         rw[List.take_of_length_le (Nat.le_of_eq HN.out.llen)]at h
         exact h
        ·rw[zH,← hXe]
         exact JD.out.2.2.stay hst (fun a ha=>by cases ha;show g≠_;omega) (Nat.le_refl _)
  case pos=>
   have HHN:=hide (And.intro xK hil)
   clear xK hiN
   go_wp2_with fail
   go_loopw [6,8] (fun nv kv wr=>∃(k g c:Nat) (N:List Nat),k≤n.ln∧kv= .int .i64 (k:Int)∧nv= .slice (some ⟨g,0,none⟩) N.length c∧i<N.length∧Hid (SW W n N g c wr∧NL n.ls n.dn i0 v i k N)) (fun _ kv _=>n.ln - (intOf kv).toNat)
   case atStart=>exact⟨0,g,c,N,Nat.zero_le _,rfl,rfl,HHN.out.2,HS⟩
   case round=>
    clear HS HHN hil
    obtain⟨k,g,c,N,hk,rfl,rfl,hil,gH⟩:=hrel
    have xK:N.length≤n.dn:=lT gH.out.2.nd gH.out.2.lt
    have n1:wr.cell? ⟨W.heap.size,1,none⟩=some (.slice n.lA n.ln n.lc):=gH.out.1.nx.get 1 _ rfl
    by_cases hkl:k<n.ln
    case neg=>
     obtain rfl:k=n.ln:=by omega
     have jk:=hide (show SW W n N g c wr∧NL n.ls n.dn i0 v (i+1) 0 N from⟨gH.out.1,NL.row (by rw[HN.out.llen];exact gH.out.2)⟩)
     go_wp2_with fail
     go_roundw
     case rel=>exact⟨i+1,g,c,N,by omega,by go_num,rfl,jk⟩
     case measure=>simp[intOf];omega
    case pos=>
     obtain⟨l,hl⟩:∃l,n.ls[k]?=some l:=⟨_,List.getElem?_eq_getElem (by have:=HN.out.llen;omega)⟩
     obtain⟨lb,lo,hlA,_,_⟩:=HN.out.ls.2 (by omega)
     have hnw:=(HN.out.below gH.out.1.bl (Nat.le_refl _)).ls
     rw[hlA]at hnw n1
     obtain⟨_,l0,l1,l2,l3⟩:=oM hnw hl
     obtain⟨x,hx⟩:∃x,N[i]?=some x:=⟨_,List.getElem?_eq_getElem hil⟩
     have hlin:=wT HE.out l (List.mem_of_getElem? hl)
     have iy:=hide hl
     clear hnw hl hlA
     obtain⟨la,lp,lb',lq⟩:=l
     simp only at l0 l1 l2 l3 hlin
     obtain⟨a,rfl⟩:∃a:Nat,la=(a:Int):=⟨la.toNat,by omega⟩
     obtain⟨b,rfl⟩:∃b:Nat,lb'=(b:Int):=⟨lb'.toNat,by omega⟩
     have Ie:=hide (show a<n.dn∧b<n.dn from by
      have h2:n.au.length=n.dn:=by simp only[aC.au,List.length_map];exact HN.out.iK
      omega)
     have hkk:(k:Int)<n.ln:=by omega
     go_wp2_with fail
     clear l0 l1 l2 l3 n1 hlin
     have HS:=hide (show SW W n N g c (wr.alloc (.cells #[.int .i64 (a:Int),.int .i64 lp,.int .i64 (b:Int),.int .i64 lq] 85))∧NL n.ls n.dn i0 v i k N∧N[i]?=some x∧i<N.length from⟨gH.out.1.below (below_alloc2 wr _),gH.out.2,hx,hil⟩)
     have HL:=hide (And.intro (Bx.new wr #[.int .i64 (a:Int),.int .i64 lp,.int .i64 (b:Int),.int .i64 lq] 85) (show wr.heap.size≠g from fun e=>by have:=(gH.out.1.own.lt g rfl).2;omega))
     clear gH hx
     generalize World.alloc wr _=wA at*
     generalize wr.heap.size=LB at*
     have hci:(i:Int)<(N.length:Int):=by omega
     by_cases ea:a=x
     case neg=>
      have eb:((a:Int)==(x:Int))=false:=by simp;omega
      have ec:¬((a:Int)=(x:Int)):=by omega
      have HP:=hide (show a=x→b∈N from fun h=>absurd h ea)
      have hnl:=lT HS.out.2.1.nd HS.out.2.1.lt
      have hix:(i:Int)<(N.length:Int):=by have:=HS.out.2.2.2;omega
      refine bB (by kernel_rfl) (by kernel_rfl) ?_
      intro TT hT gt hg1 hgi
      have aJ:=hide hg1
      have dZ:=hide hgi
      clear hg1 hgi
      have k1:∀t,(gt t).cell? ⟨LB,0,none⟩=some (.int .i64 (a:Int)):=fun t=>(HL.out.1.below (aJ.out t)).get 0 _ rfl
      have k2:∀t,(gt t).cell? ⟨LB,2,none⟩=some (.int .i64 (b:Int)):=fun t=>(HL.out.1.below (aJ.out t)).get 2 _ rfl
      have k3:∀t,(gt t).cell? ⟨g,i,none⟩=some (.int .i64 (x:Int)):=fun t=>(HS.out.1.below (aJ.out t)).cell HS.out.2.2.1
      have fJ:=hide (fun t=>iH (N.map fun(x:Nat)=>(x:Int)) (some ⟨g,0,none⟩) N.length c (b:Int) (gt t) (by omega) (kN (HS.out.1.below (aJ.out t)).own (fun x hx=>by have:=HS.out.2.1.lt x hx;omega)))
      rw[pX (by omega)]at fJ
      simp only[Int.toNat_natCast]at fJ
      obtain⟨CB,jo⟩:∃CB,decide (b∈N)=CB:=⟨_,rfl⟩
      simp only[jo]at fJ
      repeat (go_big_quiet_step ((go_at_call 46;exact eB aJ.out dZ.out (fJ.out _))))
      refine wpQuiet_nil ?_
      intro _ hw'
      obtain⟨t,rfl⟩:=hw'
      have jw:=hide (And.intro (HS.out.1.below (aJ.out t)) HS.out.2)
      have pF:=hide (And.intro (HL.out.1.below (aJ.out t)) HL.out.2)
      clear aJ dZ k1 k2 k3 fJ HS HL
      generalize gt t=wB at*
      have HS:=jw
      have HL:=pF
      clear jw pF
      clear jo eb ec ea
      go_wp2_with fail
      have qc:=HP
      clear HP
      by_cases ea:b=x
      case neg=>
       have eb:((b:Int)==(x:Int))=false:=by simp;omega
       have ec:¬((b:Int)=(x:Int)):=by omega
       have HP:=hide (show b=x→a∈N from fun h=>absurd h ea)
       have hnl:=lT HS.out.2.1.nd HS.out.2.1.lt
       have hix:(i:Int)<(N.length:Int):=by have:=HS.out.2.2.2;omega
       refine bB (by kernel_rfl) (by kernel_rfl) ?_
       intro TT hT gt hg1 hgi
       have aJ:=hide hg1
       have dZ:=hide hgi
       clear hg1 hgi
       have k1:∀t,(gt t).cell? ⟨LB,2,none⟩=some (.int .i64 (b:Int)):=fun t=>(HL.out.1.below (aJ.out t)).get 2 _ rfl
       have k2:∀t,(gt t).cell? ⟨LB,0,none⟩=some (.int .i64 (a:Int)):=fun t=>(HL.out.1.below (aJ.out t)).get 0 _ rfl
       have k3:∀t,(gt t).cell? ⟨g,i,none⟩=some (.int .i64 (x:Int)):=fun t=>(HS.out.1.below (aJ.out t)).cell HS.out.2.2.1
       have fJ:=hide (fun t=>iH (N.map fun(x:Nat)=>(x:Int)) (some ⟨g,0,none⟩) N.length c (a:Int) (gt t) (by omega) (kN (HS.out.1.below (aJ.out t)).own (fun x hx=>by have:=HS.out.2.1.lt x hx;omega)))
       rw[pX (by omega)]at fJ
       simp only[Int.toNat_natCast]at fJ
       obtain⟨CB,jo⟩:∃CB,decide (a∈N)=CB:=⟨_,rfl⟩
       simp only[jo]at fJ
       repeat (go_big_quiet_step ((go_at_call 46;exact eB aJ.out dZ.out (fJ.out _))))
       refine wpQuiet_nil ?_
       intro _ hw'
       obtain⟨t,rfl⟩:=hw'
       have jw:=hide (And.intro (HS.out.1.below (aJ.out t)) HS.out.2)
       have pF:=hide (And.intro (HL.out.1.below (aJ.out t)) HL.out.2)
       clear aJ dZ k1 k2 k3 fJ HS HL
       generalize gt t=wD at*
       have HS:=jw
       have HL:=pF
       clear jw pF
       clear jo eb ec ea
       go_wp2_with fail
       have jk:=hide (show SW W n N g c wD∧NL n.ls n.dn i0 v i (k+1) N from⟨HS.out.1,HS.out.2.1.link HS.out.2.2.1 iy.out (by simp only[Int.toNat_natCast];exact qc.out) (by simp only[Int.toNat_natCast];exact HP.out)⟩)
       have pG:i<N.length:=HS.out.2.2.2
       go_wp2_with fail
       go_roundw
       case rel=>exact⟨k+1,g,c,N,by omega,by go_num,rfl,pG,jk⟩
       case measure=>simp[intOf];omega
      case pos=>
       have eb:((b:Int)==(x:Int))=true:=by simp;omega
       have hnl:=lT HS.out.2.1.nd HS.out.2.1.lt
       have hix:(i:Int)<(N.length:Int):=by have:=HS.out.2.2.2;omega
       refine bB (by kernel_rfl) (by kernel_rfl) ?_
       intro TT hT gt hg1 hgi
       have aJ:=hide hg1
       have dZ:=hide hgi
       clear hg1 hgi
       have k1:∀t,(gt t).cell? ⟨LB,2,none⟩=some (.int .i64 (b:Int)):=fun t=>(HL.out.1.below (aJ.out t)).get 2 _ rfl
       have k2:∀t,(gt t).cell? ⟨LB,0,none⟩=some (.int .i64 (a:Int)):=fun t=>(HL.out.1.below (aJ.out t)).get 0 _ rfl
       have k3:∀t,(gt t).cell? ⟨g,i,none⟩=some (.int .i64 (x:Int)):=fun t=>(HS.out.1.below (aJ.out t)).cell HS.out.2.2.1
       have fJ:=hide (fun t=>iH (N.map fun(x:Nat)=>(x:Int)) (some ⟨g,0,none⟩) N.length c (a:Int) (gt t) (by omega) (kN (HS.out.1.below (aJ.out t)).own (fun x hx=>by have:=HS.out.2.1.lt x hx;omega)))
       rw[pX (by omega)]at fJ
       simp only[Int.toNat_natCast]at fJ
       obtain⟨CB,jo⟩:∃CB,decide (a∈N)=CB:=⟨_,rfl⟩
       simp only[jo]at fJ
       repeat (go_big_quiet_step ((go_at_call 46;exact eB aJ.out dZ.out (fJ.out _))))
       refine wpQuiet_nil ?_
       intro _ hw'
       obtain⟨t,rfl⟩:=hw'
       have jw:=hide (And.intro (HS.out.1.below (aJ.out t)) HS.out.2)
       have pF:=hide (And.intro (HL.out.1.below (aJ.out t)) HL.out.2)
       clear aJ dZ k1 k2 k3 fJ HS HL
       generalize gt t=wD at*
       have HS:=jw
       have HL:=pF
       clear jw pF
       cases CB
       case true=>
        have HP:=hide (show b=x→a∈N from fun _=>of_decide_eq_true jo)
        clear jo eb ea
        go_wp2_with fail
        have jk:=hide (show SW W n N g c wD∧NL n.ls n.dn i0 v i (k+1) N from⟨HS.out.1,HS.out.2.1.link HS.out.2.2.1 iy.out (by simp only[Int.toNat_natCast];exact qc.out) (by simp only[Int.toNat_natCast];exact HP.out)⟩)
        have pG:i<N.length:=HS.out.2.2.2
        go_wp2_with fail
        go_roundw
        case rel=>exact⟨k+1,g,c,N,by omega,by go_num,rfl,pG,jk⟩
        case measure=>simp[intOf];omega
       case false=>
        have hno:¬a∈N:=of_decide_eq_false jo
        have hvb:v a=true:=by
         have h1:=HV.out.closed _ (List.mem_of_getElem? iy.out)
         simp only[Int.toNat_natCast]at h1
         have h2:=HS.out.2.1.inv x (List.mem_of_getElem? HS.out.2.2.1)
         rw[← ea]at h2
         first | (rw[← h1];exact h2) | (rw[h1];exact h2)
        have fM:=hide (show NL n.ls n.dn i0 v i k (N++[a])∧(N++[a])[i]?=some x∧i<(N++[a]).length from⟨HS.out.2.1.push HS.out.2.2.2 hno hvb (by have:=Ie.out;omega),by rw[List.getElem?_append_left HS.out.2.2.2];exact HS.out.2.2.1,by rw[List.length_append];have:=HS.out.2.2.2;omega⟩)
        clear jo eb hno hvb
        have y0:wD.cell? ⟨LB,0,none⟩=some (.int .i64 (a:Int)):=HL.out.1.get 0 _ rfl
        have mO:=hide ((HS.out.1.below (below_alloc2 wD (.cells #[.int .i64 (a:Int)] 3))))
        have HL2:=hide (And.intro (HL.out.1.below (below_alloc2 wD (.cells #[.int .i64 (a:Int)] 3))) HL.out.2)
        have fG:=hide (xW wD (.int .i64 (a:Int)))
        have xK:N.length≤10:=by have:=lT HS.out.2.1.nd HS.out.2.1.lt;omega
        have zm:=hide (show W.heap.size+2≤(wD.alloc (.cells #[.int .i64 (a:Int)] 3)).heap.size from by have:=mO.out.own.lt g rfl;omega)
        obtain⟨tZ,hi0,hz0,hz1,hz2⟩:=info_parts Tryz.infoIntS
        clear HS HL
        go_wp2_with (at_builtin;refine aT _ rfl (.tmp 66) (.tmp 69) 55 rfl (W.heap.size+2) 3 tZ _ 1 8 Tryz.underlying55 hi0 hz0 hz1 hz2 rfl (by omega) (.slice (some ⟨g,0,none⟩) N.length c) N.length (intCells N) rfl mO.out.own _ (some ⟨wD.heap.size,0,none⟩) 1 1 [.int .i64 (a:Int)] rfl fG.out (by simp[Value.oneCell']) (by simp only[maxLen];omega) (by omega) zm.out ?_;intro v5 w9 hown5 hg5 iD;obtain⟨g3,c3,rfl,xB⟩:=mO.out.grown (m:=0) hown5 hg5;have oG:=hide (And.intro xB (And.intro hg5 iD));clear hown5 hg5 iD xB)
        clear y0
        have HS:=hide (And.intro oG.out.1 fM.out)
        have HL:=hide (show Bx w9 LB #[.int .i64 (a:Int),.int .i64 lp,.int .i64 (b:Int),.int .i64 lq] 85∧LB≠g3 from by
         have hlt:=HL2.out.1.lt
         have hlt2:LB<wD.heap.size+1:=by simpa using hlt
         refine⟨HL2.out.1.same (oG.out.2.1.block LB hlt (fun e=>by cases e;exact HL2.out.2 rfl)),fun e=>?_⟩
         rcases oG.out.2.2 with h | h
         ·cases h;exact HL2.out.2 e
         ·simp only[World.size_alloc,Value.ownBlock,Option.some.injEq]at h;omega)
        have HP:=hide (show b=x→a∈N++[a]from fun _=>by simp)
        have GA:=hide (show∀y,y∈N→y∈N++[a]from fun y hy=>List.mem_append_left _ hy)
        clear oG fM mO HL2 fG zm ea xK hi0 hz0 hz1 hz2
        have hle:N.length+1=(N++[a]).length :=by rw[List.length_append];rfl
        generalize N++[a]=N3 at*
        try simp only[hle]
        clear hle
        have RA:=qc
        clear qc
        have qc:=hide (fun h=>GA.out _ (RA.out h))
        have jk:=hide (show SW W n N3 g3 c3 w9∧NL n.ls n.dn i0 v i (k+1) N3 from⟨HS.out.1,HS.out.2.1.link HS.out.2.2.1 iy.out (by simp only[Int.toNat_natCast];exact qc.out) (by simp only[Int.toNat_natCast];exact HP.out)⟩)
        have pG:i<N3.length:=HS.out.2.2.2
        go_wp2_with fail
        go_roundw
        case rel=>exact⟨k+1,g3,c3,N3,by omega,by go_num,rfl,pG,jk⟩
        case measure=>simp[intOf];omega
     case pos=>
      have eb:((a:Int)==(x:Int))=true:=by simp;omega
      have hnl:=lT HS.out.2.1.nd HS.out.2.1.lt
      have hix:(i:Int)<(N.length:Int):=by have:=HS.out.2.2.2;omega
      refine bB (by kernel_rfl) (by kernel_rfl) ?_
      intro TT hT gt hg1 hgi
      have aJ:=hide hg1
      have dZ:=hide hgi
      clear hg1 hgi
      have k1:∀t,(gt t).cell? ⟨LB,0,none⟩=some (.int .i64 (a:Int)):=fun t=>(HL.out.1.below (aJ.out t)).get 0 _ rfl
      have k2:∀t,(gt t).cell? ⟨LB,2,none⟩=some (.int .i64 (b:Int)):=fun t=>(HL.out.1.below (aJ.out t)).get 2 _ rfl
      have k3:∀t,(gt t).cell? ⟨g,i,none⟩=some (.int .i64 (x:Int)):=fun t=>(HS.out.1.below (aJ.out t)).cell HS.out.2.2.1
      have fJ:=hide (fun t=>iH (N.map fun(x:Nat)=>(x:Int)) (some ⟨g,0,none⟩) N.length c (b:Int) (gt t) (by omega) (kN (HS.out.1.below (aJ.out t)).own (fun x hx=>by have:=HS.out.2.1.lt x hx;omega)))
      rw[pX (by omega)]at fJ
      simp only[Int.toNat_natCast]at fJ
      obtain⟨CB,jo⟩:∃CB,decide (b∈N)=CB:=⟨_,rfl⟩
      simp only[jo]at fJ
      repeat (go_big_quiet_step ((go_at_call 46;exact eB aJ.out dZ.out (fJ.out _))))
      refine wpQuiet_nil ?_
      intro _ hw'
      obtain⟨t,rfl⟩:=hw'
      have jw:=hide (And.intro (HS.out.1.below (aJ.out t)) HS.out.2)
      have pF:=hide (And.intro (HL.out.1.below (aJ.out t)) HL.out.2)
      clear aJ dZ k1 k2 k3 fJ HS HL
      generalize gt t=wB at*
      have HS:=jw
      have HL:=pF
      clear jw pF
      cases CB
      case true=>
       have HP:=hide (show a=x→b∈N from fun _=>of_decide_eq_true jo)
       clear jo eb ea
       go_wp2_with fail
       have qc:=HP
       clear HP
       by_cases ea:b=x
       case neg=>
        have eb:((b:Int)==(x:Int))=false:=by simp;omega
        have ec:¬((b:Int)=(x:Int)):=by omega
        have HP:=hide (show b=x→a∈N from fun h=>absurd h ea)
        have hnl:=lT HS.out.2.1.nd HS.out.2.1.lt
        have hix:(i:Int)<(N.length:Int):=by have:=HS.out.2.2.2;omega
        refine bB (by kernel_rfl) (by kernel_rfl) ?_
        intro TT hT gt hg1 hgi
        have aJ:=hide hg1
        have dZ:=hide hgi
        clear hg1 hgi
        have k1:∀t,(gt t).cell? ⟨LB,2,none⟩=some (.int .i64 (b:Int)):=fun t=>(HL.out.1.below (aJ.out t)).get 2 _ rfl
        have k2:∀t,(gt t).cell? ⟨LB,0,none⟩=some (.int .i64 (a:Int)):=fun t=>(HL.out.1.below (aJ.out t)).get 0 _ rfl
        have k3:∀t,(gt t).cell? ⟨g,i,none⟩=some (.int .i64 (x:Int)):=fun t=>(HS.out.1.below (aJ.out t)).cell HS.out.2.2.1
        have fJ:=hide (fun t=>iH (N.map fun(x:Nat)=>(x:Int)) (some ⟨g,0,none⟩) N.length c (a:Int) (gt t) (by omega) (kN (HS.out.1.below (aJ.out t)).own (fun x hx=>by have:=HS.out.2.1.lt x hx;omega)))
        rw[pX (by omega)]at fJ
        simp only[Int.toNat_natCast]at fJ
        obtain⟨CB,jo⟩:∃CB,decide (a∈N)=CB:=⟨_,rfl⟩
        simp only[jo]at fJ
        repeat (go_big_quiet_step ((go_at_call 46;exact eB aJ.out dZ.out (fJ.out _))))
        refine wpQuiet_nil ?_
        intro _ hw'
        obtain⟨t,rfl⟩:=hw'
        have jw:=hide (And.intro (HS.out.1.below (aJ.out t)) HS.out.2)
        have pF:=hide (And.intro (HL.out.1.below (aJ.out t)) HL.out.2)
        clear aJ dZ k1 k2 k3 fJ HS HL
        generalize gt t=wD at*
        have HS:=jw
        have HL:=pF
        clear jw pF
        clear jo eb ec ea
        go_wp2_with fail
        have jk:=hide (show SW W n N g c wD∧NL n.ls n.dn i0 v i (k+1) N from⟨HS.out.1,HS.out.2.1.link HS.out.2.2.1 iy.out (by simp only[Int.toNat_natCast];exact qc.out) (by simp only[Int.toNat_natCast];exact HP.out)⟩)
        have pG:i<N.length:=HS.out.2.2.2
        go_wp2_with fail
        go_roundw
        case rel=>exact⟨k+1,g,c,N,by omega,by go_num,rfl,pG,jk⟩
        case measure=>simp[intOf];omega
       case pos=>
        have eb:((b:Int)==(x:Int))=true:=by simp;omega
        have hnl:=lT HS.out.2.1.nd HS.out.2.1.lt
        have hix:(i:Int)<(N.length:Int):=by have:=HS.out.2.2.2;omega
        refine bB (by kernel_rfl) (by kernel_rfl) ?_
        intro TT hT gt hg1 hgi
        have aJ:=hide hg1
        have dZ:=hide hgi
        clear hg1 hgi
        have k1:∀t,(gt t).cell? ⟨LB,2,none⟩=some (.int .i64 (b:Int)):=fun t=>(HL.out.1.below (aJ.out t)).get 2 _ rfl
        have k2:∀t,(gt t).cell? ⟨LB,0,none⟩=some (.int .i64 (a:Int)):=fun t=>(HL.out.1.below (aJ.out t)).get 0 _ rfl
        have k3:∀t,(gt t).cell? ⟨g,i,none⟩=some (.int .i64 (x:Int)):=fun t=>(HS.out.1.below (aJ.out t)).cell HS.out.2.2.1
        have fJ:=hide (fun t=>iH (N.map fun(x:Nat)=>(x:Int)) (some ⟨g,0,none⟩) N.length c (a:Int) (gt t) (by omega) (kN (HS.out.1.below (aJ.out t)).own (fun x hx=>by have:=HS.out.2.1.lt x hx;omega)))
        rw[pX (by omega)]at fJ
        simp only[Int.toNat_natCast]at fJ
        obtain⟨CB,jo⟩:∃CB,decide (a∈N)=CB:=⟨_,rfl⟩
        simp only[jo]at fJ
        repeat (go_big_quiet_step ((go_at_call 46;exact eB aJ.out dZ.out (fJ.out _))))
        refine wpQuiet_nil ?_
        intro _ hw'
        obtain⟨t,rfl⟩:=hw'
        have jw:=hide (And.intro (HS.out.1.below (aJ.out t)) HS.out.2)
        have pF:=hide (And.intro (HL.out.1.below (aJ.out t)) HL.out.2)
        clear aJ dZ k1 k2 k3 fJ HS HL
        generalize gt t=wD at*
        have HS:=jw
        have HL:=pF
        clear jw pF
        cases CB
        case true=>
         have HP:=hide (show b=x→a∈N from fun _=>of_decide_eq_true jo)
         clear jo eb ea
         go_wp2_with fail
         have jk:=hide (show SW W n N g c wD∧NL n.ls n.dn i0 v i (k+1) N from⟨HS.out.1,HS.out.2.1.link HS.out.2.2.1 iy.out (by simp only[Int.toNat_natCast];exact qc.out) (by simp only[Int.toNat_natCast];exact HP.out)⟩)
         have pG:i<N.length:=HS.out.2.2.2
         go_wp2_with fail
         go_roundw
         case rel=>exact⟨k+1,g,c,N,by omega,by go_num,rfl,pG,jk⟩
         case measure=>simp[intOf];omega
        case false=>
         have hno:¬a∈N:=of_decide_eq_false jo
         have hvb:v a=true:=by
          have h1:=HV.out.closed _ (List.mem_of_getElem? iy.out)
          simp only[Int.toNat_natCast]at h1
          have h2:=HS.out.2.1.inv x (List.mem_of_getElem? HS.out.2.2.1)
          rw[← ea]at h2
          first | (rw[← h1];exact h2) | (rw[h1];exact h2)
         have fM:=hide (show NL n.ls n.dn i0 v i k (N++[a])∧(N++[a])[i]?=some x∧i<(N++[a]).length from⟨HS.out.2.1.push HS.out.2.2.2 hno hvb (by have:=Ie.out;omega),by rw[List.getElem?_append_left HS.out.2.2.2];exact HS.out.2.2.1,by rw[List.length_append];have:=HS.out.2.2.2;omega⟩)
         clear jo eb hno hvb
         have y0:wD.cell? ⟨LB,0,none⟩=some (.int .i64 (a:Int)):=HL.out.1.get 0 _ rfl
         have mO:=hide ((HS.out.1.below (below_alloc2 wD (.cells #[.int .i64 (a:Int)] 3))))
         have HL2:=hide (And.intro (HL.out.1.below (below_alloc2 wD (.cells #[.int .i64 (a:Int)] 3))) HL.out.2)
         have fG:=hide (xW wD (.int .i64 (a:Int)))
         have xK:N.length≤10:=by have:=lT HS.out.2.1.nd HS.out.2.1.lt;omega
         have zm:=hide (show W.heap.size+2≤(wD.alloc (.cells #[.int .i64 (a:Int)] 3)).heap.size from by have:=mO.out.own.lt g rfl;omega)
         obtain⟨tZ,hi0,hz0,hz1,hz2⟩:=info_parts Tryz.infoIntS
         clear HS HL
         go_wp2_with (at_builtin;refine aT _ rfl (.tmp 66) (.tmp 69) 55 rfl (W.heap.size+2) 3 tZ _ 1 8 Tryz.underlying55 hi0 hz0 hz1 hz2 rfl (by omega) (.slice (some ⟨g,0,none⟩) N.length c) N.length (intCells N) rfl mO.out.own _ (some ⟨wD.heap.size,0,none⟩) 1 1 [.int .i64 (a:Int)] rfl fG.out (by simp[Value.oneCell']) (by simp only[maxLen];omega) (by omega) zm.out ?_;intro v5 w9 hown5 hg5 iD;obtain⟨g3,c3,rfl,xB⟩:=mO.out.grown (m:=0) hown5 hg5;have oG:=hide (And.intro xB (And.intro hg5 iD));clear hown5 hg5 iD xB)
         clear y0
         have HS:=hide (And.intro oG.out.1 fM.out)
         have HL:=hide (show Bx w9 LB #[.int .i64 (a:Int),.int .i64 lp,.int .i64 (b:Int),.int .i64 lq] 85∧LB≠g3 from by
          have hlt:=HL2.out.1.lt
          have hlt2:LB<wD.heap.size+1:=by simpa using hlt
          refine⟨HL2.out.1.same (oG.out.2.1.block LB hlt (fun e=>by cases e;exact HL2.out.2 rfl)),fun e=>?_⟩
          rcases oG.out.2.2 with h | h
          ·cases h;exact HL2.out.2 e
          ·simp only[World.size_alloc,Value.ownBlock,Option.some.injEq]at h;omega)
         have HP:=hide (show b=x→a∈N++[a]from fun _=>by simp)
         have GA:=hide (show∀y,y∈N→y∈N++[a]from fun y hy=>List.mem_append_left _ hy)
         clear oG fM mO HL2 fG zm ea xK hi0 hz0 hz1 hz2
         have hle:N.length+1=(N++[a]).length :=by rw[List.length_append];rfl
         generalize N++[a]=N3 at*
         try simp only[hle]
         clear hle
         have RA:=qc
         clear qc
         have qc:=hide (fun h=>GA.out _ (RA.out h))
         have jk:=hide (show SW W n N3 g3 c3 w9∧NL n.ls n.dn i0 v i (k+1) N3 from⟨HS.out.1,HS.out.2.1.link HS.out.2.2.1 iy.out (by simp only[Int.toNat_natCast];exact qc.out) (by simp only[Int.toNat_natCast];exact HP.out)⟩)
         have pG:i<N3.length:=HS.out.2.2.2
         go_wp2_with fail
         go_roundw
         case rel=>exact⟨k+1,g3,c3,N3,by omega,by go_num,rfl,pG,jk⟩
         case measure=>simp[intOf];omega
      case false=>
       have hno:¬b∈N:=of_decide_eq_false jo
       have hvb:v b=true:=by
        have h1:=HV.out.closed _ (List.mem_of_getElem? iy.out)
        simp only[Int.toNat_natCast]at h1
        have h2:=HS.out.2.1.inv x (List.mem_of_getElem? HS.out.2.2.1)
        rw[← ea]at h2
        first | (rw[← h1];exact h2) | (rw[h1];exact h2)
       have fM:=hide (show NL n.ls n.dn i0 v i k (N++[b])∧(N++[b])[i]?=some x∧i<(N++[b]).length from⟨HS.out.2.1.push HS.out.2.2.2 hno hvb (by have:=Ie.out;omega),by rw[List.getElem?_append_left HS.out.2.2.2];exact HS.out.2.2.1,by rw[List.length_append];have:=HS.out.2.2.2;omega⟩)
       clear jo eb hno hvb
       have y0:wB.cell? ⟨LB,2,none⟩=some (.int .i64 (b:Int)):=HL.out.1.get 2 _ rfl
       have mO:=hide ((HS.out.1.below (below_alloc2 wB (.cells #[.int .i64 (b:Int)] 3))))
       have HL2:=hide (And.intro (HL.out.1.below (below_alloc2 wB (.cells #[.int .i64 (b:Int)] 3))) HL.out.2)
       have fG:=hide (xW wB (.int .i64 (b:Int)))
       have xK:N.length≤10:=by have:=lT HS.out.2.1.nd HS.out.2.1.lt;omega
       have zm:=hide (show W.heap.size+2≤(wB.alloc (.cells #[.int .i64 (b:Int)] 3)).heap.size from by have:=mO.out.own.lt g rfl;omega)
       obtain⟨tZ,hi0,hz0,hz1,hz2⟩:=info_parts Tryz.infoIntS
       clear HS HL
       go_wp2_with (at_builtin;refine aT _ rfl (.tmp 47) (.tmp 50) 55 rfl (W.heap.size+2) 3 tZ _ 1 8 Tryz.underlying55 hi0 hz0 hz1 hz2 rfl (by omega) (.slice (some ⟨g,0,none⟩) N.length c) N.length (intCells N) rfl mO.out.own _ (some ⟨wB.heap.size,0,none⟩) 1 1 [.int .i64 (b:Int)] rfl fG.out (by simp[Value.oneCell']) (by simp only[maxLen];omega) (by omega) zm.out ?_;intro v5 w9 hown5 hg5 iD;obtain⟨g2,c2,rfl,xB⟩:=mO.out.grown (m:=0) hown5 hg5;have oG:=hide (And.intro xB (And.intro hg5 iD));clear hown5 hg5 iD xB)
       clear y0
       have HS:=hide (And.intro oG.out.1 fM.out)
       have HL:=hide (show Bx w9 LB #[.int .i64 (a:Int),.int .i64 lp,.int .i64 (b:Int),.int .i64 lq] 85∧LB≠g2 from by
        have hlt:=HL2.out.1.lt
        have hlt2:LB<wB.heap.size+1:=by simpa using hlt
        refine⟨HL2.out.1.same (oG.out.2.1.block LB hlt (fun e=>by cases e;exact HL2.out.2 rfl)),fun e=>?_⟩
        rcases oG.out.2.2 with h | h
        ·cases h;exact HL2.out.2 e
        ·simp only[World.size_alloc,Value.ownBlock,Option.some.injEq]at h;omega)
       have HP:=hide (show a=x→b∈N++[b]from fun _=>by simp)
       have GA:=hide (show∀y,y∈N→y∈N++[b]from fun y hy=>List.mem_append_left _ hy)
       clear oG fM mO HL2 fG zm ea xK hi0 hz0 hz1 hz2
       have hle:N.length+1=(N++[b]).length :=by rw[List.length_append];rfl
       generalize N++[b]=N2 at*
       try simp only[hle]
       clear hle
       have qc:=HP
       clear HP
       by_cases ea:b=x
       case neg=>
        have eb:((b:Int)==(x:Int))=false:=by simp;omega
        have ec:¬((b:Int)=(x:Int)):=by omega
        have HP:=hide (show b=x→a∈N2 from fun h=>absurd h ea)
        have hnl:=lT HS.out.2.1.nd HS.out.2.1.lt
        have hix:(i:Int)<(N2.length:Int):=by have:=HS.out.2.2.2;omega
        refine bB (by kernel_rfl) (by kernel_rfl) ?_
        intro TT hT gt hg1 hgi
        have aJ:=hide hg1
        have dZ:=hide hgi
        clear hg1 hgi
        have k1:∀t,(gt t).cell? ⟨LB,2,none⟩=some (.int .i64 (b:Int)):=fun t=>(HL.out.1.below (aJ.out t)).get 2 _ rfl
        have k2:∀t,(gt t).cell? ⟨LB,0,none⟩=some (.int .i64 (a:Int)):=fun t=>(HL.out.1.below (aJ.out t)).get 0 _ rfl
        have k3:∀t,(gt t).cell? ⟨g2,i,none⟩=some (.int .i64 (x:Int)):=fun t=>(HS.out.1.below (aJ.out t)).cell HS.out.2.2.1
        have fJ:=hide (fun t=>iH (N2.map fun(x:Nat)=>(x:Int)) (some ⟨g2,0,none⟩) N2.length c2 (a:Int) (gt t) (by omega) (kN (HS.out.1.below (aJ.out t)).own (fun x hx=>by have:=HS.out.2.1.lt x hx;omega)))
        rw[pX (by omega)]at fJ
        simp only[Int.toNat_natCast]at fJ
        obtain⟨CB,jo⟩:∃CB,decide (a∈N2)=CB:=⟨_,rfl⟩
        simp only[jo]at fJ
        repeat (go_big_quiet_step ((go_at_call 46;exact eB aJ.out dZ.out (fJ.out _))))
        refine wpQuiet_nil ?_
        intro _ hw'
        obtain⟨t,rfl⟩:=hw'
        have jw:=hide (And.intro (HS.out.1.below (aJ.out t)) HS.out.2)
        have pF:=hide (And.intro (HL.out.1.below (aJ.out t)) HL.out.2)
        clear aJ dZ k1 k2 k3 fJ HS HL
        generalize gt t=wD at*
        have HS:=jw
        have HL:=pF
        clear jw pF
        clear jo eb ec ea
        go_wp2_with fail
        have jk:=hide (show SW W n N2 g2 c2 wD∧NL n.ls n.dn i0 v i (k+1) N2 from⟨HS.out.1,HS.out.2.1.link HS.out.2.2.1 iy.out (by simp only[Int.toNat_natCast];exact qc.out) (by simp only[Int.toNat_natCast];exact HP.out)⟩)
        have pG:i<N2.length:=HS.out.2.2.2
        go_wp2_with fail
        go_roundw
        case rel=>exact⟨k+1,g2,c2,N2,by omega,by go_num,rfl,pG,jk⟩
        case measure=>simp[intOf];omega
       case pos=>
        have eb:((b:Int)==(x:Int))=true:=by simp;omega
        have hnl:=lT HS.out.2.1.nd HS.out.2.1.lt
        have hix:(i:Int)<(N2.length:Int):=by have:=HS.out.2.2.2;omega
        refine bB (by kernel_rfl) (by kernel_rfl) ?_
        intro TT hT gt hg1 hgi
        have aJ:=hide hg1
        have dZ:=hide hgi
        clear hg1 hgi
        have k1:∀t,(gt t).cell? ⟨LB,2,none⟩=some (.int .i64 (b:Int)):=fun t=>(HL.out.1.below (aJ.out t)).get 2 _ rfl
        have k2:∀t,(gt t).cell? ⟨LB,0,none⟩=some (.int .i64 (a:Int)):=fun t=>(HL.out.1.below (aJ.out t)).get 0 _ rfl
        have k3:∀t,(gt t).cell? ⟨g2,i,none⟩=some (.int .i64 (x:Int)):=fun t=>(HS.out.1.below (aJ.out t)).cell HS.out.2.2.1
        have fJ:=hide (fun t=>iH (N2.map fun(x:Nat)=>(x:Int)) (some ⟨g2,0,none⟩) N2.length c2 (a:Int) (gt t) (by omega) (kN (HS.out.1.below (aJ.out t)).own (fun x hx=>by have:=HS.out.2.1.lt x hx;omega)))
        rw[pX (by omega)]at fJ
        simp only[Int.toNat_natCast]at fJ
        obtain⟨CB,jo⟩:∃CB,decide (a∈N2)=CB:=⟨_,rfl⟩
        simp only[jo]at fJ
        repeat (go_big_quiet_step ((go_at_call 46;exact eB aJ.out dZ.out (fJ.out _))))
        refine wpQuiet_nil ?_
        intro _ hw'
        obtain⟨t,rfl⟩:=hw'
        have jw:=hide (And.intro (HS.out.1.below (aJ.out t)) HS.out.2)
        have pF:=hide (And.intro (HL.out.1.below (aJ.out t)) HL.out.2)
        clear aJ dZ k1 k2 k3 fJ HS HL
        generalize gt t=wD at*
        have HS:=jw
        have HL:=pF
        clear jw pF
        cases CB
        case true=>
         have HP:=hide (show b=x→a∈N2 from fun _=>of_decide_eq_true jo)
         clear jo eb ea
         go_wp2_with fail
         have jk:=hide (show SW W n N2 g2 c2 wD∧NL n.ls n.dn i0 v i (k+1) N2 from⟨HS.out.1,HS.out.2.1.link HS.out.2.2.1 iy.out (by simp only[Int.toNat_natCast];exact qc.out) (by simp only[Int.toNat_natCast];exact HP.out)⟩)
         have pG:i<N2.length:=HS.out.2.2.2
         go_wp2_with fail
         go_roundw
         case rel=>exact⟨k+1,g2,c2,N2,by omega,by go_num,rfl,pG,jk⟩
         case measure=>simp[intOf];omega
        case false=>
         have hno:¬a∈N2:=of_decide_eq_false jo
         have hvb:v a=true:=by
          have h1:=HV.out.closed _ (List.mem_of_getElem? iy.out)
          simp only[Int.toNat_natCast]at h1
          have h2:=HS.out.2.1.inv x (List.mem_of_getElem? HS.out.2.2.1)
          rw[← ea]at h2
          first | (rw[← h1];exact h2) | (rw[h1];exact h2)
         have fM:=hide (show NL n.ls n.dn i0 v i k (N2++[a])∧(N2++[a])[i]?=some x∧i<(N2++[a]).length from⟨HS.out.2.1.push HS.out.2.2.2 hno hvb (by have:=Ie.out;omega),by rw[List.getElem?_append_left HS.out.2.2.2];exact HS.out.2.2.1,by rw[List.length_append];have:=HS.out.2.2.2;omega⟩)
         clear jo eb hno hvb
         have y0:wD.cell? ⟨LB,0,none⟩=some (.int .i64 (a:Int)):=HL.out.1.get 0 _ rfl
         have mO:=hide ((HS.out.1.below (below_alloc2 wD (.cells #[.int .i64 (a:Int)] 3))))
         have HL2:=hide (And.intro (HL.out.1.below (below_alloc2 wD (.cells #[.int .i64 (a:Int)] 3))) HL.out.2)
         have fG:=hide (xW wD (.int .i64 (a:Int)))
         have xK:N2.length≤10:=by have:=lT HS.out.2.1.nd HS.out.2.1.lt;omega
         have zm:=hide (show W.heap.size+2≤(wD.alloc (.cells #[.int .i64 (a:Int)] 3)).heap.size from by have:=mO.out.own.lt g2 rfl;omega)
         obtain⟨tZ,hi0,hz0,hz1,hz2⟩:=info_parts Tryz.infoIntS
         clear HS HL
         go_wp2_with (at_builtin;refine aT _ rfl (.tmp 66) (.tmp 69) 55 rfl (W.heap.size+2) 3 tZ _ 1 8 Tryz.underlying55 hi0 hz0 hz1 hz2 rfl (by omega) (.slice (some ⟨g2,0,none⟩) N2.length c2) N2.length (intCells N2) rfl mO.out.own _ (some ⟨wD.heap.size,0,none⟩) 1 1 [.int .i64 (a:Int)] rfl fG.out (by simp[Value.oneCell']) (by simp only[maxLen];omega) (by omega) zm.out ?_;intro v5 w9 hown5 hg5 iD;obtain⟨g3,c3,rfl,xB⟩:=mO.out.grown (m:=0) hown5 hg5;have oG:=hide (And.intro xB (And.intro hg5 iD));clear hown5 hg5 iD xB)
         clear y0
         have HS:=hide (And.intro oG.out.1 fM.out)
         have HL:=hide (show Bx w9 LB #[.int .i64 (a:Int),.int .i64 lp,.int .i64 (b:Int),.int .i64 lq] 85∧LB≠g3 from by
          have hlt:=HL2.out.1.lt
          have hlt2:LB<wD.heap.size+1:=by simpa using hlt
          refine⟨HL2.out.1.same (oG.out.2.1.block LB hlt (fun e=>by cases e;exact HL2.out.2 rfl)),fun e=>?_⟩
          rcases oG.out.2.2 with h | h
          ·cases h;exact HL2.out.2 e
          ·simp only[World.size_alloc,Value.ownBlock,Option.some.injEq]at h;omega)
         have HP:=hide (show b=x→a∈N2++[a]from fun _=>by simp)
         have GA:=hide (show∀y,y∈N2→y∈N2++[a]from fun y hy=>List.mem_append_left _ hy)
         clear oG fM mO HL2 fG zm ea xK hi0 hz0 hz1 hz2
         have hle:N2.length+1=(N2++[a]).length :=by rw[List.length_append];rfl
         generalize N2++[a]=N3 at*
         try simp only[hle]
         clear hle
         have RA:=qc
         clear qc
         have qc:=hide (fun h=>GA.out _ (RA.out h))
         have jk:=hide (show SW W n N3 g3 c3 w9∧NL n.ls n.dn i0 v i (k+1) N3 from⟨HS.out.1,HS.out.2.1.link HS.out.2.2.1 iy.out (by simp only[Int.toNat_natCast];exact qc.out) (by simp only[Int.toNat_natCast];exact HP.out)⟩)
         have pG:i<N3.length:=HS.out.2.2.2
         go_wp2_with fail
         go_roundw
         case rel=>exact⟨k+1,g3,c3,N3,by omega,by go_num,rfl,pG,jk⟩
         case measure=>simp[intOf];omega
end Go.Proofs.YtifkacnoiocebaaGreat
