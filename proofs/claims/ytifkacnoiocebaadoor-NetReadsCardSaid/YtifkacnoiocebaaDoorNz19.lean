/- A part of the proof: Nr15. -/
import Derived.Test.YtifkacnoiocebaaDoorNz18
set_option linter.unusedVariables false
set_option linter.unusedSimpArgs false
set_option maxRecDepth 100000
set_option maxHeartbeats 8000000
namespace Go.Proofs.YtifkacnoiocebaaDoor
open Go.RowKit
theorem CZ (R:Nat) (S:dJ) (x:List UInt8) (rest:List (List UInt8)) (base g n cap:Nat) (W:World) (hm:eP W) (hR:iV jV 41 W R S) (hS:cK S 10000) (hw:cB W base g n cap (x::rest)) (hwo:iX (x::rest)) (hgR:R<g) (hkx:eX x=4):
  Calls Tryd.prog 31 #[.pointer (some ⟨R,0,none⟩),.slice (some ⟨g,0,none⟩) n cap] W (gU jV 41 R (bP S (x::rest)) W):=by
 have hn:=hw.len
 simp only[List.length_cons]at hn
 have hgl:=hw.lt.2
 have hRl:=hR.lt
 have iM:=hwo.len
 have jK:=hwo.each
 have zq:=hide hm
 obtain⟨ds,V,L,hbx,aR,hds⟩:=hR
 have jE:=hide hds
 have aL:Bx W R #[V,L,.bool (!S.ls.isEmpty)] 41:=hbx
 have bI:=hide (fun(w':World) (hb:Below W.heap.size W w')=>show NG w' (R+1) ds S.ls V L∧Bx w' R #[V,L,.bool (!S.ls.isEmpty)] 41 from⟨aR.below hb,aL.below hb⟩)
 have gI:=hide (show ds.length≤10000 from by have:=hS.d;rw[← hds,List.length_map]at this;exact this)
 have dM:=hide (fun(w':World) (hb:Below W.heap.size W w') (k:Nat) (y:List UInt8) (h:(x::rest)[k]?=some y)=>show w'.cell? ⟨g,k,none⟩=some (.string ⟨y.toArray⟩)from(hw.below hb).get h)
 clear hbx aL aR hds hS hwo hm
 have iO:=hide (Bx.new W #[.string ⟨#[]⟩,.int .i64 1,.int .i64 0,.int .u8 0,.slice none 0 0,.slice none 0 0,.slice none 0 0] 37)
 have HB0:=hide (below_alloc2 W (.cells #[.string ⟨#[]⟩,.int .i64 1,.int .i64 0,.int .u8 0,.slice none 0 0,.slice none 0 0,.slice none 0 0] 37))
 have kK:=hide (show(W.alloc (.cells #[.string ⟨#[]⟩,.int .i64 1,.int .i64 0,.int .u8 0,.slice none 0 0,.slice none 0 0,.slice none 0 0] 37)).heap.size =W.heap.size+1 from by simp)
 obtain⟨D,hD⟩:∃D,W.heap.size=D:=⟨_,rfl⟩
 rw[hD]at iO HB0 kK
 have HW:=hide hw
 have qN:=hide (fun(w':World) (hb:Below D W w')=>show w'.cell? ⟨g,0,none⟩=some (.string ⟨x.toArray⟩)from(hb.cell (p:=⟨g,0,none⟩) (by show g<D;omega)).trans (hw.get (k:=0) rfl))
 clear hw
 go_enter Tryd.func31,Tryd.ntmps31
 go_wp2_with fail
 generalize World.alloc W _=W1 at*
 have oP:W1.heap.size=D+1:=kK.out
 go_loopw [] (fun wr=>∃k:Nat,1≤k∧k≤6∧Hid (∀j:Nat,1≤j→j<k→bY (j:Int)≠x)∧Hid (Bx wr D #[.string ⟨#[]⟩,.int .i64 (k:Int),.int .i64 0,.int .u8 0,.slice none 0 0,.slice none 0 0,.slice none 0 0] 37)∧Hid (Below D W wr)∧D+1≤wr.heap.size) (fun wr=>qM D wr)
 case atStart=>exact⟨1,by omega,by omega,hide (fun j h1 h2=>by omega),iO,HB0,by omega⟩
 case round=>
  obtain⟨k,hk1,r9,bC,HX,HB,hsz⟩:=hrel
  have mH:=hide (jy HX.out)
  have hg0:=qN.out wr HB.out
  have x1:wr.cell? ⟨D,1,none⟩=some (.int .i64 (k:Int)):=HX.out.get 1 _ rfl
  by_cases hk5:k≤5
  case pos=>
   have d5:decide ((k:Int)≤5)=true:=decide_eq_true (by omega)
   have jW:=hide (fun w=>kT (k:Int) w (by omega))
   have hn0:(0:Int)<(n:Int):=by omega
   have hn1:0<n:=by omega
   by_cases hxk:bY (k:Int)=x
   case neg=>
    have e1:(bY (k:Int)==x)=false:=by simpa using hxk
    have e2:(bY (k:Int) != x)=true:=by simpa using hxk
    go_wp2_with fail
    refine bB (by kernel_rfl) (by kernel_rfl) ?_
    intro T hT gt hg1 hgi
    have aM:=hide hg1
    have dz:=hide hgi
    have k0:∀t,(gt t).cell? ⟨g,0,none⟩=some (.string ⟨x.toArray⟩):=fun t=>((hg1 t).cell (p:=⟨g,0,none⟩) (by show g<_;omega)).trans hg0
    have k1:∀t,(gt t).cell? ⟨D,1,none⟩=some (.int .i64 (k:Int)):=fun t=>((hg1 t).cell (p:=⟨D,1,none⟩) (by show D<_;omega)).trans x1
    clear hg1 hgi
    repeat (go_big_quiet_step ((go_at_call 51;exact bR (jW.out _))))
    refine wpQuiet_nil ?_
    intro _ hw'
    obtain⟨t,rfl⟩:=hw'
    have bJ:=hide (HX.out.below (aM.out t))
    have aK:=hide (HB.out.trans ((aM.out t).mono (by omega)))
    have kL:D+1≤(gt t).heap.size :=by have:=(aM.out t).size;omega
    have y1:(gt t).cell? ⟨D,1,none⟩=some (.int .i64 (k:Int)):=bJ.out.get 1 _ rfl
    have y2:(gt t).frozen? ⟨D,1,none⟩=false:=bJ.out.frozen 1
    generalize gt t=w4 at*
    clear aM dz k0 k1 x1 hg0
    go_wp2_with fail
    have nG:=hide (show Bx (w4.setCell ⟨D,1,none⟩ (.int .i64 ((k:Int)+1))) D #[.string ⟨#[]⟩,.int .i64 ((k+1:Nat):Int),.int .i64 0,.int .u8 0,.slice none 0 0,.slice none 0 0,.slice none 0 0] 37 from by
     have h:=bJ.out.set 1 (.int .i64 ((k:Int)+1))
     exact h)
    have nZ:=hide (jy nG.out)
    go_roundw
    case rel=>exact⟨k+1,by omega,by omega,hide (fun j h1 h2=>by
     rcases(by omega:j<k∨j=k)with h | rfl
     ·exact bC.out j h1 h
     ·exact hxk),nG,hide (aK.out.setCell (p:=⟨D,1,none⟩) (Nat.le_refl D) _),by rw[size_setCell];exact kL⟩
    case measure=>rw[nZ.out,mH.out];omega
   case pos=>
    obtain rfl:k=4:=by
     have:=kS hk1 hk5 hxk bC.out
     omega
    have e1:(bY 4==x)=true:=by simpa using hxk
    have e2:(bY 4 != x)=false:=by simpa using hxk
    go_wp2_with fail
    rw[show(((4:Nat):Int))=4 from rfl]at x1 jW
    refine bB (by kernel_rfl) (by kernel_rfl) ?_
    intro T hT gt hg1 hgi
    have aM:=hide hg1
    have dz:=hide hgi
    have k0:∀t,(gt t).cell? ⟨g,0,none⟩=some (.string ⟨x.toArray⟩):=fun t=>((hg1 t).cell (p:=⟨g,0,none⟩) (by show g<_;omega)).trans hg0
    have k1:∀t,(gt t).cell? ⟨D,1,none⟩=some (.int .i64 4):=fun t=>((hg1 t).cell (p:=⟨D,1,none⟩) (by show D<_;omega)).trans x1
    clear hg1 hgi
    repeat (go_big_quiet_step ((go_at_call 51;exact bR (jW.out _))))
    refine wpQuiet_nil ?_
    intro _ hw'
    obtain⟨t,rfl⟩:=hw'
    have bJ:=hide (HX.out.below (aM.out t))
    have aK:=hide (HB.out.trans ((aM.out t).mono (by omega)))
    have kL:D+1≤(gt t).heap.size :=by have:=(aM.out t).size;omega
    have y1:(gt t).cell? ⟨D,1,none⟩=some (.int .i64 4):=bJ.out.get 1 _ rfl
    have y2:(gt t).frozen? ⟨D,1,none⟩=false:=bJ.out.frozen 1
    have ya:∀o,((gt t).alloc o).cell? ⟨D,1,none⟩=some (.int .i64 4):=fun o=>(bJ.out.below (below_alloc2 _ o)).get 1 _ rfl
    generalize gt t=w4 at*
    clear aM dz k0 k1 x1 hg0 bC mH HX HB hsz
    have dN:=hide (aK.out.trans ((below_alloc2 w4 (.cells #[.int .i64 0,.int .i64 3,.int .i64 2,.int .i64 2,.int .i64 4,.int .i64 4] 3)).mono (by omega)))
    have ku:=hide (bJ.out.below (below_alloc2 w4 (.cells #[.int .i64 0,.int .i64 3,.int .i64 2,.int .i64 2,.int .i64 4,.int .i64 4] 3)))
    have uK:(w4.alloc (.cells #[.int .i64 0,.int .i64 3,.int .i64 2,.int .i64 2,.int .i64 4,.int .i64 4] 3)).heap.size =w4.heap.size+1:=by simp
    rw[hD]at dM bI
    by_cases hw2:n=4
    case neg=>
     have d2:((n:Int)==4)=false:=by simp;omega
     have d3:((n:Int) != 4)=true:=by simp;omega
     have HF:=hide (kU (S:=S) (by omega) hkx (show rest.length+1≠jm 4 from by rw[hn];exact hw2))
     go_wp2_with fail
     go_ret
     exact⟨dN.out.mono (by omega),.inl ⟨HF.out,rfl⟩⟩
    case pos=>
    subst hw2
    obtain⟨nm,rest,rfl⟩:∃a t,rest=a::t:=by
     cases rest with
     |nil=>simp at hn
     |cons a t=>exact⟨a,t,rfl⟩
    obtain⟨na,rest,rfl⟩:∃a t,rest=a::t:=by
     cases rest with
     |nil=>simp at hn
     |cons a t=>exact⟨a,t,rfl⟩
    obtain⟨nl,rest,rfl⟩:∃a t,rest=a::t:=by
     cases rest with
     |nil=>simp at hn
     |cons a t=>exact⟨a,t,rfl⟩
    obtain rfl:rest=[]:=by
     cases rest with
     |nil=>rfl
     |cons a t=>simp only[List.length_cons]at hn;omega
    have hnl:nm.length≤5000:=jK nm (by simp)
    have z1:∀o,(w4.alloc o).cell? ⟨g,1,none⟩=some (.string ⟨nm.toArray⟩):=fun o=>dM.out _ (aK.out.trans ((below_alloc2 w4 o).mono (by omega))) 1 nm rfl
    have kC:=hide (fun w=>kV ⟨nm.toArray⟩ w (by have:=jK nm (by simp);show nm.toArray.size≤maxLen;rw[List.size_toArray];simp only[maxLen];omega))
    have r2:∀o,(w4.alloc o).cell? ⟨R,2,none⟩=some (.bool (!S.ls.isEmpty)):=fun o=>(bI.out _ (aK.out.trans ((below_alloc2 w4 o).mono (by omega)))).2.get 2 _ rfl
    go_wp2_with fail
    refine(kC.out _).mono ?_
    rintro e w5 ⟨rfl,rfl⟩
    cases hnb:bT ⟨nm.toArray⟩
    case false=>
     have HF:=hide (dG S x nm ([na,nl]) (.inr hnb))
     go_wp2_with fail
     go_ret
     exact⟨dN.out.mono (by omega),.inl ⟨HF.out,rfl⟩⟩
    case true=>
    cases hlb:S.ls.isEmpty
    case false=>
     have HF:=hide (dG S x nm ([na,nl]) (.inl (by simpa using hlb)))
     go_wp2_with fail
     go_ret
     exact⟨dN.out.mono (by omega),.inl ⟨HF.out,rfl⟩⟩
    case true=>
    have HF:=hide (show bP S [x,nm,na,nl]=if decide (0≤aF na 100)=true then(match iy nl with | some xs=>(match jC 0 xs with | some p=>some ⟨S.ds++[⟨⟨nm.toArray⟩,4,aF na 100,p,[],[],[]⟩],S.ls⟩ | none=>none) | none=>none)else none from by
     simp only[bP,hkx,decide_eq_true_eq]
     exact if_neg (by intro hc;rcases hc with hc | hc;exact hc (by simpa using hlb);exact absurd (show bT ⟨nm.toArray⟩=false from hc) (by rw[hnb];decide)))
    generalize World.alloc w4 _=w6 at*
    clear ya y1 y2 z1 r2 bJ aK jW e1 e2
    have q1:w6.cell? ⟨g,1,none⟩=some (.string ⟨nm.toArray⟩):=dM.out _ dN.out 1 nm rfl
    have q0:w6.cell? ⟨D,0,none⟩=some (.string ⟨#[]⟩):=ku.out.get 0 _ rfl
    have q2:w6.frozen? ⟨D,0,none⟩=false:=ku.out.frozen 0
    have q3:w6.cell? ⟨R,2,none⟩=some (.bool false):=by
     have:=(bI.out _ dN.out).2.get 2 _ rfl
     rw[hlb]at this
     exact this
    have bU:=hide (ku.out.set 0 (.string ⟨nm.toArray⟩))
    have bM:=hide (dN.out.setCell (p:=⟨D,0,none⟩) (Nat.le_refl D) (.string ⟨nm.toArray⟩))
    have o8:=size_setCell w6 ⟨D,0,none⟩ (.string ⟨nm.toArray⟩)
    have iI:=hide (fun w=>fK na w)
    have nH:=gW na 100
    have nI:=dP na 100
    obtain⟨A,hA⟩:∃A,aF na 100=A:=⟨_,rfl⟩
    obtain⟨oa,hoa⟩:∃oa,decide (0≤A)=oa:=⟨_,rfl⟩
    simp only[hA,hoa]at iI HF nH nI
    have mR: -1≤A∧A≤100:=by omega
    clear hA hoa nH nI
    have g2:(w6.setCell ⟨D,0,none⟩ (.string ⟨nm.toArray⟩)).cell? ⟨g,2,none⟩=some (.string ⟨na.toArray⟩):=dM.out _ bM.out 2 na rfl
    have vv:(w6.setCell ⟨D,0,none⟩ (.string ⟨nm.toArray⟩)).cell? ⟨D,2,none⟩=some (.int .i64 0):=bU.out.get 2 _ rfl
    have vw:(w6.setCell ⟨D,0,none⟩ (.string ⟨nm.toArray⟩)).frozen? ⟨D,2,none⟩=false:=bU.out.frozen 2
    go_wp2_with fail
    refine(iI.out _).mono ?_
    rintro e w5 ⟨rfl,rfl⟩
    have xB:D+1≤w6.heap.size:=ku.out.lt
    generalize World.setCell w6 _ _=qj at*
    have qO:=hide (bU.out.set 2 (.int .i64 A))
    have qP:=hide (bM.out.setCell (p:=⟨D,2,none⟩) (Nat.le_refl D) (.int .i64 A))
    have BJ:D+1≤(qj.setCell ⟨D,2,none⟩ (.int .i64 A)).heap.size :=by rw[size_setCell,o8];exact xB
    clear bU bM
    have bU:=qO
    have bM:=qP
    clear qO qP
    have BK:nl.length≤5000:=jK nl (by simp)
    have g3:(qj.setCell ⟨D,2,none⟩ (.int .i64 A)).cell? ⟨g,3,none⟩=some (.string ⟨nl.toArray⟩):=dM.out _ bM.out 3 nl rfl
    have qQ:=hide (fun w (h:eP w)=>qG nl w BK h)
    have Ay:=hide (zq.out.below (show Below W.heap.size W (qj.setCell ⟨D,2,none⟩ (.int .i64 A))from by rw[hD];exact bM.out))
    go_wp2_with fail
    refine(qQ.out _ Ay.out).mono ?_
    rintro e w5 ⟨hb5,hcase⟩
    have Ej:=hb5.size
    have aG:=hide (bU.out.below hb5)
    have bg:=hide (bM.out.trans (hb5.mono (by omega)))
    clear qQ Ay bU bM g3
    generalize World.setCell qj _ _=F5 at*
    clear hb5
    have hx1:w5.cell? ⟨D,1,none⟩=some (.int .i64 4):=aG.out.get 1 _ rfl
    have hx4:w5.cell? ⟨D,4,none⟩=some (.slice none 0 0):=aG.out.get 4 _ rfl
    have hx5:w5.frozen? ⟨D,4,none⟩=false:=aG.out.frozen 4
    rcases hcase with⟨hnn,rfl⟩ | ⟨xs,v,hnn,rfl,hown⟩
    ·rw[hnn]at HF
     clear hnn
     cases oa with
     |true=>
      go_wp2_with fail
      have bU:=aG
      have bM:=bg
      have hD7:D+1≤w5.heap.size:=by omega
      clear aG bg hx1 hx4 hx5
      have eY:=hide (gV w5 (R+1) ⟨nm.toArray⟩ 4 A 0)
      have ji:=hide (gJ (bA:=none) (bn:=0) (bc:=0) hnl (show -1≤(4:Int)∧(4:Int)≤100 by omega) mR (show 0<256 by omega) (bs:=[]) (fun y hy=>(nomatch hy)))
      generalize w5=w7 at*
      have bg:=hide (bM.out.drew)
      have aG:=hide (show Bx w7.drew D #[.string ⟨nm.toArray⟩,.int .i64 4,.int .i64 A,.int .u8 0,.slice none 0 0,.slice none 0 0,.slice none 0 0] 37 from bU.out)
      have bQ:=hide (show eZ w7.drew (R+1) ⟨⟨nm.toArray⟩,4,A,0,none,0,0,[],none,0,0,[],none,0,0,[]⟩from eY.out)
      have lK:D+1≤w7.drew.heap.size:=hD7
      have hS0:w7.drew.cell? ⟨R,0,none⟩=some V∧w7.drew.cell? ⟨D,0,none⟩=some (.string ⟨nm.toArray⟩)∧w7.drew.cell? ⟨D,1,none⟩=some (.int .i64 4)∧w7.drew.cell? ⟨D,2,none⟩=some (.int .i64 A)∧w7.drew.cell? ⟨D,3,none⟩=some (.int .u8 0)∧w7.drew.cell? ⟨D,4,none⟩=some (.slice none 0 0)∧w7.drew.cell? ⟨D,5,none⟩=some (.slice none 0 0)∧w7.drew.cell? ⟨D,6,none⟩=some (.slice none 0 0):=
       ⟨(bI.out _ bg.out).2.get 0 _ rfl,aG.out.get 0 _ rfl,aG.out.get 1 _ rfl,aG.out.get 2 _ rfl,aG.out.get 3 _ rfl,aG.out.get 4 _ rfl,aG.out.get 5 _ rfl,aG.out.get 6 _ rfl⟩
      refine bF (fun w'=>w'.cell? ⟨R,0,none⟩=some V∧w'.cell? ⟨D,0,none⟩=some (.string ⟨nm.toArray⟩)∧w'.cell? ⟨D,1,none⟩=some (.int .i64 4)∧w'.cell? ⟨D,2,none⟩=some (.int .i64 A)∧w'.cell? ⟨D,3,none⟩=some (.int .u8 0)∧w'.cell? ⟨D,4,none⟩=some (.slice none 0 0)∧w'.cell? ⟨D,5,none⟩=some (.slice none 0 0)∧w'.cell? ⟨D,6,none⟩=some (.slice none 0 0)) 8 (by kernel_rfl) hS0 (fun hS inv=>?_)
      clear hS0 bU bM eY hD7
      generalize World.drew w7=wd at*
      revert inv
      refine rP 0 hS ?_
      refine rP 1 hS ?_
      refine rP 2 hS ?_
      refine rP 3 hS ?_
      refine rP 4 hS ?_
      refine rL 5 [8] rfl hS (by intro w hSw;obtain⟨s0,s1,s2,s3,s4,s5,s6,s7⟩:=hSw;go_simp;try with_reducible rfl) ?_
      refine rL 6 [7,8] rfl hS (by intro w hSw;obtain⟨s0,s1,s2,s3,s4,s5,s6,s7⟩:=hSw;go_simp;try with_reducible rfl) ?_
      intro inv
      refine rO 7 inv fun K hK=>?_
      rw[if_pos (by rfl)]
      obtain⟨eB,hi0,hz0,hz1,hz2⟩:=info_parts Tryd.infoDevice
      refine wp_buildSlice 22 37 1 #[(0,.tmp 99)] rfl #[.string ⟨nm.toArray⟩,.int .i64 4,.int .i64 A,.int .u8 0,.slice none 0 0,.slice none 0 0,.slice none 0 0] eB _ Tryd.underlying22 hi0 hz0 (by rw[hz1];omega) (by rw[hz1];omega) (by rw[hz1,Array.toList_map];exact d9 ⟨nm.toArray⟩ 4 A 0 none none none 0 0 0 0 0 0) ?_
      have ak:=below_alloc2 wd (.cells #[.string ⟨nm.toArray⟩,.int .i64 4,.int .i64 A,.int .u8 0,.slice none 0 0,.slice none 0 0,.slice none 0 0] 37)
      have aO:=hide (Bx.new wd #[.string ⟨nm.toArray⟩,.int .i64 4,.int .i64 A,.int .u8 0,.slice none 0 0,.slice none 0 0,.slice none 0 0] 37)
      have aS:=hide (bg.out.trans (ak.mono (by omega)))
      have au:=hide (bI.out _ (bg.out.trans (ak.mono (by omega)))).1
      have bq:=hide (bI.out _ (bg.out.trans (ak.mono (by omega)))).2
      have bZ:=hide (show eZ _ (R+1) ⟨⟨nm.toArray⟩,4,A,0,none,0,0,[],none,0,0,[],none,0,0,[]⟩from⟨own_below bQ.out.1 ak,bQ.out.2⟩)
      have bW:=hide (show(wd.alloc (.cells #[.string ⟨nm.toArray⟩,.int .i64 4,.int .i64 A,.int .u8 0,.slice none 0 0,.slice none 0 0,.slice none 0 0] 37)).heap.size =wd.heap.size+1 from by simp)
      have hSS:(wd.alloc (.cells #[.string ⟨nm.toArray⟩,.int .i64 4,.int .i64 A,.int .u8 0,.slice none 0 0,.slice none 0 0,.slice none 0 0] 37)).cell? ⟨R,0,none⟩=some V:=bq.out.get 0 _ rfl
      have aI:=hide (aG.out.below ak)
      clear ak bg aG bQ hS
      generalize World.alloc wd _=aA at*
      have hS:aA.cell? ⟨R,0,none⟩=some V∧aA.cell? ⟨D,0,none⟩=some (.string ⟨nm.toArray⟩)∧aA.cell? ⟨D,1,none⟩=some (.int .i64 4)∧aA.cell? ⟨D,2,none⟩=some (.int .i64 A)∧aA.cell? ⟨D,3,none⟩=some (.int .u8 0)∧aA.cell? ⟨D,4,none⟩=some (.slice none 0 0)∧aA.cell? ⟨D,5,none⟩=some (.slice none 0 0)∧aA.cell? ⟨D,6,none⟩=some (.slice none 0 0):=
       ⟨hSS,aI.out.get 0 _ rfl,aI.out.get 1 _ rfl,aI.out.get 2 _ rfl,aI.out.get 3 _ rfl,aI.out.get 4 _ rfl,aI.out.get 5 _ rfl,aI.out.get 6 _ rfl⟩
      refine hK.out _ _ (fun _=>hS) ?_
      clear hK K hS inv
      intro inv
      try simp only[Act.put,aB,aC,aD]
      refine rT 8 inv fun K hK=>?_
      rw[if_pos (by rfl)]
      have iD:=bW.out
      have hdl:=gI.out
      refine aZ _ (.tmp 98) (.tmp 100) 22 rfl (R+1) 37 eB _ 7 112 Tryd.underlying22 hi0 hz0 hz1 hz2 rfl (by omega) V ds.length (ds.flatMap ah.cells) rfl au.out.d (wd.heap.size+1) (some ⟨wd.heap.size,0,none⟩) 1 1 (ah.cells ⟨⟨nm.toArray⟩,4,A,0,none,0,0,[],none,0,0,[],none,0,0,[]⟩) rfl ⟨rfl,fun _=>⟨_,rfl,Nat.lt_succ_self _,fun j' u hu=>by
       rw[addr_add,Nat.zero_add]
       exact aO.out.get j' u (by simpa[ah.cells]using hu)⟩⟩ (ah.one _) (by simp only[maxLen];omega) (by omega) (by omega) ?_
      intro v9 w9 aH aN bX
      obtain⟨g9,c9,rfl,_⟩:=aH.form (by omega)
      have dh:=hide (au.out.gX (x:=⟨⟨nm.toArray⟩,4,A,0,none,0,0,[],none,0,0,[],none,0,0,[]⟩) ji.out bZ.out ⟨rfl,rfl,rfl,rfl⟩ ⟨rfl,rfl,rfl,rfl⟩ aH aN)
      have aT:=hide (bq.out.same (aY aN (by omega) (fun e=>by have:=(au.out.d.lt _ e).1;omega)))
      have bS:=hide (show Below R W w9 from(aS.out.mono (by omega)).grown aN (by omega) (fun j hj=>by have:=(au.out.d.lt _ hj).1;omega))
      have s0:w9.cell? ⟨R,0,none⟩=some V:=aT.out.get 0 _ rfl
      have f0:w9.frozen? ⟨R,0,none⟩=false:=aT.out.frozen 0
      clear aH aN bX au bq aS bZ aO hSS
      refine hK.out _ _ ?_
      clear hK K inv
      intro inv
      try simp only[Act.put,aB,aC,aD]
      refine rT 9 inv fun K hK=>?_
      go_simp
      refine hK.out _ _ ?_
      clear hK K inv
      intro inv
      try simp only[Act.put,aB,aC,aD]
      refine rT 10 inv fun K hK=>?_
      go_simp
      refine hK.out _ _ ?_
      clear hK K inv
      intro inv
      try simp only[Act.put,aB,aC,aD]
      refine rT 11 inv fun K hK=>?_
      go_simp
      refine hK.out _ _ ?_
      clear hK K inv
      intro inv
      try simp only[Act.put,aB,aC,aD]
      refine rT 12 inv fun K hK=>?_
      go_simp
      refine hK.out _ _ ?_
      clear hK K inv
      intro inv
      try simp only[Act.put,aB,aC,aD]
      refine rD ?_
      clear inv
      clear s0 f0
      have fD:=hide (aT.out.set 0 (.slice (some ⟨g9,0,none⟩) (ds.length+1) c9))
      have iN:=hide (dh.out.same (w':=w9.setCell ⟨R,0,none⟩ (.slice (some ⟨g9,0,none⟩) (ds.length+1) c9)) (fun q h1 h2=>RowKit.Below.heap_setCell _ _ _ _ (show q≠R by omega)))
      have aQ:=hide (bS.out.setCell (p:=⟨R,0,none⟩) (Nat.le_refl R) (.slice (some ⟨g9,0,none⟩) (ds.length+1) c9))
      generalize World.setCell w9 _ _=fH at*
      clear aT dh bS
      go_wp2_with fail
      go_ret
      exact⟨aQ.out,.inl ⟨HF.out,rfl⟩⟩
     |false=>
      go_wp2_with fail
      have bU:=aG
      have bM:=bg
      have hD7:D+1≤w5.heap.size:=by omega
      clear aG bg hx1 hx4 hx5
      have eY:=hide (gV w5 (R+1) ⟨nm.toArray⟩ 4 A 0)
      have ji:=hide (gJ (bA:=none) (bn:=0) (bc:=0) hnl (show -1≤(4:Int)∧(4:Int)≤100 by omega) mR (show 0<256 by omega) (bs:=[]) (fun y hy=>(nomatch hy)))
      generalize w5=w7 at*
      have bg:=hide (bM.out.drew)
      have aG:=hide (show Bx w7.drew D #[.string ⟨nm.toArray⟩,.int .i64 4,.int .i64 A,.int .u8 0,.slice none 0 0,.slice none 0 0,.slice none 0 0] 37 from bU.out)
      have bQ:=hide (show eZ w7.drew (R+1) ⟨⟨nm.toArray⟩,4,A,0,none,0,0,[],none,0,0,[],none,0,0,[]⟩from eY.out)
      have lK:D+1≤w7.drew.heap.size:=hD7
      have hS0:w7.drew.cell? ⟨R,0,none⟩=some V∧w7.drew.cell? ⟨D,0,none⟩=some (.string ⟨nm.toArray⟩)∧w7.drew.cell? ⟨D,1,none⟩=some (.int .i64 4)∧w7.drew.cell? ⟨D,2,none⟩=some (.int .i64 A)∧w7.drew.cell? ⟨D,3,none⟩=some (.int .u8 0)∧w7.drew.cell? ⟨D,4,none⟩=some (.slice none 0 0)∧w7.drew.cell? ⟨D,5,none⟩=some (.slice none 0 0)∧w7.drew.cell? ⟨D,6,none⟩=some (.slice none 0 0):=
       ⟨(bI.out _ bg.out).2.get 0 _ rfl,aG.out.get 0 _ rfl,aG.out.get 1 _ rfl,aG.out.get 2 _ rfl,aG.out.get 3 _ rfl,aG.out.get 4 _ rfl,aG.out.get 5 _ rfl,aG.out.get 6 _ rfl⟩
      refine bF (fun w'=>w'.cell? ⟨R,0,none⟩=some V∧w'.cell? ⟨D,0,none⟩=some (.string ⟨nm.toArray⟩)∧w'.cell? ⟨D,1,none⟩=some (.int .i64 4)∧w'.cell? ⟨D,2,none⟩=some (.int .i64 A)∧w'.cell? ⟨D,3,none⟩=some (.int .u8 0)∧w'.cell? ⟨D,4,none⟩=some (.slice none 0 0)∧w'.cell? ⟨D,5,none⟩=some (.slice none 0 0)∧w'.cell? ⟨D,6,none⟩=some (.slice none 0 0)) 8 (by kernel_rfl) hS0 (fun hS inv=>?_)
      clear hS0 bU bM eY hD7
      generalize World.drew w7=wd at*
      revert inv
      refine rP 0 hS ?_
      refine rP 1 hS ?_
      refine rP 2 hS ?_
      refine rP 3 hS ?_
      refine rP 4 hS ?_
      refine rL 5 [8] rfl hS (by intro w hSw;obtain⟨s0,s1,s2,s3,s4,s5,s6,s7⟩:=hSw;go_simp;try with_reducible rfl) ?_
      refine rL 6 [7,8] rfl hS (by intro w hSw;obtain⟨s0,s1,s2,s3,s4,s5,s6,s7⟩:=hSw;go_simp;try with_reducible rfl) ?_
      intro inv
      refine rO 7 inv fun K hK=>?_
      rw[if_pos (by rfl)]
      obtain⟨eB,hi0,hz0,hz1,hz2⟩:=info_parts Tryd.infoDevice
      refine wp_buildSlice 22 37 1 #[(0,.tmp 99)] rfl #[.string ⟨nm.toArray⟩,.int .i64 4,.int .i64 A,.int .u8 0,.slice none 0 0,.slice none 0 0,.slice none 0 0] eB _ Tryd.underlying22 hi0 hz0 (by rw[hz1];omega) (by rw[hz1];omega) (by rw[hz1,Array.toList_map];exact d9 ⟨nm.toArray⟩ 4 A 0 none none none 0 0 0 0 0 0) ?_
      have ak:=below_alloc2 wd (.cells #[.string ⟨nm.toArray⟩,.int .i64 4,.int .i64 A,.int .u8 0,.slice none 0 0,.slice none 0 0,.slice none 0 0] 37)
      have aO:=hide (Bx.new wd #[.string ⟨nm.toArray⟩,.int .i64 4,.int .i64 A,.int .u8 0,.slice none 0 0,.slice none 0 0,.slice none 0 0] 37)
      have aS:=hide (bg.out.trans (ak.mono (by omega)))
      have au:=hide (bI.out _ (bg.out.trans (ak.mono (by omega)))).1
      have bq:=hide (bI.out _ (bg.out.trans (ak.mono (by omega)))).2
      have bZ:=hide (show eZ _ (R+1) ⟨⟨nm.toArray⟩,4,A,0,none,0,0,[],none,0,0,[],none,0,0,[]⟩from⟨own_below bQ.out.1 ak,bQ.out.2⟩)
      have bW:=hide (show(wd.alloc (.cells #[.string ⟨nm.toArray⟩,.int .i64 4,.int .i64 A,.int .u8 0,.slice none 0 0,.slice none 0 0,.slice none 0 0] 37)).heap.size =wd.heap.size+1 from by simp)
      have hSS:(wd.alloc (.cells #[.string ⟨nm.toArray⟩,.int .i64 4,.int .i64 A,.int .u8 0,.slice none 0 0,.slice none 0 0,.slice none 0 0] 37)).cell? ⟨R,0,none⟩=some V:=bq.out.get 0 _ rfl
      have aI:=hide (aG.out.below ak)
      clear ak bg aG bQ hS
      generalize World.alloc wd _=aA at*
      have hS:aA.cell? ⟨R,0,none⟩=some V∧aA.cell? ⟨D,0,none⟩=some (.string ⟨nm.toArray⟩)∧aA.cell? ⟨D,1,none⟩=some (.int .i64 4)∧aA.cell? ⟨D,2,none⟩=some (.int .i64 A)∧aA.cell? ⟨D,3,none⟩=some (.int .u8 0)∧aA.cell? ⟨D,4,none⟩=some (.slice none 0 0)∧aA.cell? ⟨D,5,none⟩=some (.slice none 0 0)∧aA.cell? ⟨D,6,none⟩=some (.slice none 0 0):=
       ⟨hSS,aI.out.get 0 _ rfl,aI.out.get 1 _ rfl,aI.out.get 2 _ rfl,aI.out.get 3 _ rfl,aI.out.get 4 _ rfl,aI.out.get 5 _ rfl,aI.out.get 6 _ rfl⟩
      refine hK.out _ _ (fun _=>hS) ?_
      clear hK K hS inv
      intro inv
      try simp only[Act.put,aB,aC,aD]
      refine rT 8 inv fun K hK=>?_
      rw[if_pos (by rfl)]
      have iD:=bW.out
      have hdl:=gI.out
      refine aZ _ (.tmp 98) (.tmp 100) 22 rfl (R+1) 37 eB _ 7 112 Tryd.underlying22 hi0 hz0 hz1 hz2 rfl (by omega) V ds.length (ds.flatMap ah.cells) rfl au.out.d (wd.heap.size+1) (some ⟨wd.heap.size,0,none⟩) 1 1 (ah.cells ⟨⟨nm.toArray⟩,4,A,0,none,0,0,[],none,0,0,[],none,0,0,[]⟩) rfl ⟨rfl,fun _=>⟨_,rfl,Nat.lt_succ_self _,fun j' u hu=>by
       rw[addr_add,Nat.zero_add]
       exact aO.out.get j' u (by simpa[ah.cells]using hu)⟩⟩ (ah.one _) (by simp only[maxLen];omega) (by omega) (by omega) ?_
      intro v9 w9 aH aN bX
      obtain⟨g9,c9,rfl,_⟩:=aH.form (by omega)
      have dh:=hide (au.out.gX (x:=⟨⟨nm.toArray⟩,4,A,0,none,0,0,[],none,0,0,[],none,0,0,[]⟩) ji.out bZ.out ⟨rfl,rfl,rfl,rfl⟩ ⟨rfl,rfl,rfl,rfl⟩ aH aN)
      have aT:=hide (bq.out.same (aY aN (by omega) (fun e=>by have:=(au.out.d.lt _ e).1;omega)))
      have bS:=hide (show Below R W w9 from(aS.out.mono (by omega)).grown aN (by omega) (fun j hj=>by have:=(au.out.d.lt _ hj).1;omega))
      have s0:w9.cell? ⟨R,0,none⟩=some V:=aT.out.get 0 _ rfl
      have f0:w9.frozen? ⟨R,0,none⟩=false:=aT.out.frozen 0
      clear aH aN bX au bq aS bZ aO hSS
      refine hK.out _ _ ?_
      clear hK K inv
      intro inv
      try simp only[Act.put,aB,aC,aD]
      refine rT 9 inv fun K hK=>?_
      go_simp
      refine hK.out _ _ ?_
      clear hK K inv
      intro inv
      try simp only[Act.put,aB,aC,aD]
      refine rT 10 inv fun K hK=>?_
      go_simp
      refine hK.out _ _ ?_
      clear hK K inv
      intro inv
      try simp only[Act.put,aB,aC,aD]
      refine rT 11 inv fun K hK=>?_
      go_simp
      refine hK.out _ _ ?_
      clear hK K inv
      intro inv
      try simp only[Act.put,aB,aC,aD]
      refine rT 12 inv fun K hK=>?_
      go_simp
      refine hK.out _ _ ?_
      clear hK K inv
      intro inv
      try simp only[Act.put,aB,aC,aD]
      refine rD ?_
      clear inv
      clear s0 f0
      have fD:=hide (aT.out.set 0 (.slice (some ⟨g9,0,none⟩) (ds.length+1) c9))
      have iN:=hide (dh.out.same (w':=w9.setCell ⟨R,0,none⟩ (.slice (some ⟨g9,0,none⟩) (ds.length+1) c9)) (fun q h1 h2=>RowKit.Below.heap_setCell _ _ _ _ (show q≠R by omega)))
      have aQ:=hide (bS.out.setCell (p:=⟨R,0,none⟩) (Nat.le_refl R) (.slice (some ⟨g9,0,none⟩) (ds.length+1) c9))
      generalize World.setCell w9 _ _=fH at*
      clear aT dh bS
      go_wp2_with fail
      go_ret
      exact⟨aQ.out,.inl ⟨HF.out,rfl⟩⟩
    ·rw[hnn]at HF
     have hxs:=oQ hnn
     have hxl:=og hnn
     obtain⟨A',c',rfl,_,_,_⟩:=bD.dw kI hown rfl
     clear hnn
     cases oa with
     |false=>
      go_wp2_with fail
      have bU:=aG
      have bM:=bg
      have hD7:D+1≤w5.heap.size:=by omega
      clear aG bg hx1 hx4 hx5
      have eY:=hide (gV w5 (R+1) ⟨nm.toArray⟩ 4 A 0)
      have ji:=hide (gJ (bA:=none) (bn:=0) (bc:=0) hnl (show -1≤(4:Int)∧(4:Int)≤100 by omega) mR (show 0<256 by omega) (bs:=[]) (fun y hy=>(nomatch hy)))
      generalize w5=w7 at*
      have bg:=hide (bM.out.drew)
      have aG:=hide (show Bx w7.drew D #[.string ⟨nm.toArray⟩,.int .i64 4,.int .i64 A,.int .u8 0,.slice none 0 0,.slice none 0 0,.slice none 0 0] 37 from bU.out)
      have bQ:=hide (show eZ w7.drew (R+1) ⟨⟨nm.toArray⟩,4,A,0,none,0,0,[],none,0,0,[],none,0,0,[]⟩from eY.out)
      have lK:D+1≤w7.drew.heap.size:=hD7
      have hS0:w7.drew.cell? ⟨R,0,none⟩=some V∧w7.drew.cell? ⟨D,0,none⟩=some (.string ⟨nm.toArray⟩)∧w7.drew.cell? ⟨D,1,none⟩=some (.int .i64 4)∧w7.drew.cell? ⟨D,2,none⟩=some (.int .i64 A)∧w7.drew.cell? ⟨D,3,none⟩=some (.int .u8 0)∧w7.drew.cell? ⟨D,4,none⟩=some (.slice none 0 0)∧w7.drew.cell? ⟨D,5,none⟩=some (.slice none 0 0)∧w7.drew.cell? ⟨D,6,none⟩=some (.slice none 0 0):=
       ⟨(bI.out _ bg.out).2.get 0 _ rfl,aG.out.get 0 _ rfl,aG.out.get 1 _ rfl,aG.out.get 2 _ rfl,aG.out.get 3 _ rfl,aG.out.get 4 _ rfl,aG.out.get 5 _ rfl,aG.out.get 6 _ rfl⟩
      refine bF (fun w'=>w'.cell? ⟨R,0,none⟩=some V∧w'.cell? ⟨D,0,none⟩=some (.string ⟨nm.toArray⟩)∧w'.cell? ⟨D,1,none⟩=some (.int .i64 4)∧w'.cell? ⟨D,2,none⟩=some (.int .i64 A)∧w'.cell? ⟨D,3,none⟩=some (.int .u8 0)∧w'.cell? ⟨D,4,none⟩=some (.slice none 0 0)∧w'.cell? ⟨D,5,none⟩=some (.slice none 0 0)∧w'.cell? ⟨D,6,none⟩=some (.slice none 0 0)) 8 (by kernel_rfl) hS0 (fun hS inv=>?_)
      clear hS0 bU bM eY hD7
      generalize World.drew w7=wd at*
      revert inv
      refine rP 0 hS ?_
      refine rP 1 hS ?_
      refine rP 2 hS ?_
      refine rP 3 hS ?_
      refine rP 4 hS ?_
      refine rL 5 [8] rfl hS (by intro w hSw;obtain⟨s0,s1,s2,s3,s4,s5,s6,s7⟩:=hSw;go_simp;try with_reducible rfl) ?_
      refine rL 6 [7,8] rfl hS (by intro w hSw;obtain⟨s0,s1,s2,s3,s4,s5,s6,s7⟩:=hSw;go_simp;try with_reducible rfl) ?_
      intro inv
      refine rO 7 inv fun K hK=>?_
      rw[if_pos (by rfl)]
      obtain⟨eB,hi0,hz0,hz1,hz2⟩:=info_parts Tryd.infoDevice
      refine wp_buildSlice 22 37 1 #[(0,.tmp 99)] rfl #[.string ⟨nm.toArray⟩,.int .i64 4,.int .i64 A,.int .u8 0,.slice none 0 0,.slice none 0 0,.slice none 0 0] eB _ Tryd.underlying22 hi0 hz0 (by rw[hz1];omega) (by rw[hz1];omega) (by rw[hz1,Array.toList_map];exact d9 ⟨nm.toArray⟩ 4 A 0 none none none 0 0 0 0 0 0) ?_
      have ak:=below_alloc2 wd (.cells #[.string ⟨nm.toArray⟩,.int .i64 4,.int .i64 A,.int .u8 0,.slice none 0 0,.slice none 0 0,.slice none 0 0] 37)
      have aO:=hide (Bx.new wd #[.string ⟨nm.toArray⟩,.int .i64 4,.int .i64 A,.int .u8 0,.slice none 0 0,.slice none 0 0,.slice none 0 0] 37)
      have aS:=hide (bg.out.trans (ak.mono (by omega)))
      have au:=hide (bI.out _ (bg.out.trans (ak.mono (by omega)))).1
      have bq:=hide (bI.out _ (bg.out.trans (ak.mono (by omega)))).2
      have bZ:=hide (show eZ _ (R+1) ⟨⟨nm.toArray⟩,4,A,0,none,0,0,[],none,0,0,[],none,0,0,[]⟩from⟨own_below bQ.out.1 ak,bQ.out.2⟩)
      have bW:=hide (show(wd.alloc (.cells #[.string ⟨nm.toArray⟩,.int .i64 4,.int .i64 A,.int .u8 0,.slice none 0 0,.slice none 0 0,.slice none 0 0] 37)).heap.size =wd.heap.size+1 from by simp)
      have hSS:(wd.alloc (.cells #[.string ⟨nm.toArray⟩,.int .i64 4,.int .i64 A,.int .u8 0,.slice none 0 0,.slice none 0 0,.slice none 0 0] 37)).cell? ⟨R,0,none⟩=some V:=bq.out.get 0 _ rfl
      have aI:=hide (aG.out.below ak)
      clear ak bg aG bQ hS
      generalize World.alloc wd _=aA at*
      have hS:aA.cell? ⟨R,0,none⟩=some V∧aA.cell? ⟨D,0,none⟩=some (.string ⟨nm.toArray⟩)∧aA.cell? ⟨D,1,none⟩=some (.int .i64 4)∧aA.cell? ⟨D,2,none⟩=some (.int .i64 A)∧aA.cell? ⟨D,3,none⟩=some (.int .u8 0)∧aA.cell? ⟨D,4,none⟩=some (.slice none 0 0)∧aA.cell? ⟨D,5,none⟩=some (.slice none 0 0)∧aA.cell? ⟨D,6,none⟩=some (.slice none 0 0):=
       ⟨hSS,aI.out.get 0 _ rfl,aI.out.get 1 _ rfl,aI.out.get 2 _ rfl,aI.out.get 3 _ rfl,aI.out.get 4 _ rfl,aI.out.get 5 _ rfl,aI.out.get 6 _ rfl⟩
      refine hK.out _ _ (fun _=>hS) ?_
      clear hK K hS inv
      intro inv
      try simp only[Act.put,aB,aC,aD]
      refine rT 8 inv fun K hK=>?_
      rw[if_pos (by rfl)]
      have iD:=bW.out
      have hdl:=gI.out
      refine aZ _ (.tmp 98) (.tmp 100) 22 rfl (R+1) 37 eB _ 7 112 Tryd.underlying22 hi0 hz0 hz1 hz2 rfl (by omega) V ds.length (ds.flatMap ah.cells) rfl au.out.d (wd.heap.size+1) (some ⟨wd.heap.size,0,none⟩) 1 1 (ah.cells ⟨⟨nm.toArray⟩,4,A,0,none,0,0,[],none,0,0,[],none,0,0,[]⟩) rfl ⟨rfl,fun _=>⟨_,rfl,Nat.lt_succ_self _,fun j' u hu=>by
       rw[addr_add,Nat.zero_add]
       exact aO.out.get j' u (by simpa[ah.cells]using hu)⟩⟩ (ah.one _) (by simp only[maxLen];omega) (by omega) (by omega) ?_
      intro v9 w9 aH aN bX
      obtain⟨g9,c9,rfl,_⟩:=aH.form (by omega)
      have dh:=hide (au.out.gX (x:=⟨⟨nm.toArray⟩,4,A,0,none,0,0,[],none,0,0,[],none,0,0,[]⟩) ji.out bZ.out ⟨rfl,rfl,rfl,rfl⟩ ⟨rfl,rfl,rfl,rfl⟩ aH aN)
      have aT:=hide (bq.out.same (aY aN (by omega) (fun e=>by have:=(au.out.d.lt _ e).1;omega)))
      have bS:=hide (show Below R W w9 from(aS.out.mono (by omega)).grown aN (by omega) (fun j hj=>by have:=(au.out.d.lt _ hj).1;omega))
      have s0:w9.cell? ⟨R,0,none⟩=some V:=aT.out.get 0 _ rfl
      have f0:w9.frozen? ⟨R,0,none⟩=false:=aT.out.frozen 0
      clear aH aN bX au bq aS bZ aO hSS
      refine hK.out _ _ ?_
      clear hK K inv
      intro inv
      try simp only[Act.put,aB,aC,aD]
      refine rT 9 inv fun K hK=>?_
      go_simp
      refine hK.out _ _ ?_
      clear hK K inv
      intro inv
      try simp only[Act.put,aB,aC,aD]
      refine rT 10 inv fun K hK=>?_
      go_simp
      refine hK.out _ _ ?_
      clear hK K inv
      intro inv
      try simp only[Act.put,aB,aC,aD]
      refine rT 11 inv fun K hK=>?_
      go_simp
      refine hK.out _ _ ?_
      clear hK K inv
      intro inv
      try simp only[Act.put,aB,aC,aD]
      refine rT 12 inv fun K hK=>?_
      go_simp
      refine hK.out _ _ ?_
      clear hK K inv
      intro inv
      try simp only[Act.put,aB,aC,aD]
      refine rD ?_
      clear inv
      clear s0 f0
      have fD:=hide (aT.out.set 0 (.slice (some ⟨g9,0,none⟩) (ds.length+1) c9))
      have iN:=hide (dh.out.same (w':=w9.setCell ⟨R,0,none⟩ (.slice (some ⟨g9,0,none⟩) (ds.length+1) c9)) (fun q h1 h2=>RowKit.Below.heap_setCell _ _ _ _ (show q≠R by omega)))
      have aQ:=hide (bS.out.setCell (p:=⟨R,0,none⟩) (Nat.le_refl R) (.slice (some ⟨g9,0,none⟩) (ds.length+1) c9))
      generalize World.setCell w9 _ _=fH at*
      clear aT dh bS
      go_wp2_with fail
      go_ret
      exact⟨aQ.out,.inl ⟨HF.out,rfl⟩⟩
     |true=>
      have ED:=hide (yF D (.string ⟨nm.toArray⟩) (.int .i64 4) (.int .i64 A) (.slice none 0 0) (.slice none 0 0) (.slice none 0 0) 0 A' xs.length c' xs w5 aG.out (by omega) (uG (iL kI hown rfl) (fun y hy=>by have:=hxs y hy;unfold bG;omega)) (fun a ha=>by have:=(hown.lt a.block (by rw[ha];rfl)).1;omega) (fun y hy=>(hxs y hy).1) (by omega))
      go_wp2_with fail
      refine ED.out.mono ?_
      rintro e w6 ⟨hb6,hcase⟩
      have uK:=hb6.size
      have bM:=hide (bg.out.trans hb6)
      have hD7:D+1≤w6.heap.size:=by omega
      have eY:=hide (gV w6 (R+1) ⟨nm.toArray⟩ 4 A 0)
      clear ED bg aG hx1 hx4 hx5 hown
      rcases hcase with⟨hpn,rfl,p,hp,hX⟩ | ⟨p,hpn,hp,rfl,hX⟩
      ·rw[hpn]at HF
       have bU:=hide hX
       have eY:=hide (gV w6 (R+1) ⟨nm.toArray⟩ 4 A p)
       have ji:=hide (gJ (bA:=none) (bn:=0) (bc:=0) hnl (show -1≤(4:Int)∧(4:Int)≤100 by omega) mR hp (bs:=[]) (fun y hy=>(nomatch hy)))
       clear hX hpn hb6 hp
       go_wp2_with fail
       generalize w6=w7 at*
       have bg:=hide (bM.out.drew)
       have aG:=hide (show Bx w7.drew D #[.string ⟨nm.toArray⟩,.int .i64 4,.int .i64 A,.int .u8 p,.slice none 0 0,.slice none 0 0,.slice none 0 0] 37 from bU.out)
       have bQ:=hide (show eZ w7.drew (R+1) ⟨⟨nm.toArray⟩,4,A,p,none,0,0,[],none,0,0,[],none,0,0,[]⟩from eY.out)
       have lK:D+1≤w7.drew.heap.size:=hD7
       have hS0:w7.drew.cell? ⟨R,0,none⟩=some V∧w7.drew.cell? ⟨D,0,none⟩=some (.string ⟨nm.toArray⟩)∧w7.drew.cell? ⟨D,1,none⟩=some (.int .i64 4)∧w7.drew.cell? ⟨D,2,none⟩=some (.int .i64 A)∧w7.drew.cell? ⟨D,3,none⟩=some (.int .u8 p)∧w7.drew.cell? ⟨D,4,none⟩=some (.slice none 0 0)∧w7.drew.cell? ⟨D,5,none⟩=some (.slice none 0 0)∧w7.drew.cell? ⟨D,6,none⟩=some (.slice none 0 0):=
        ⟨(bI.out _ bg.out).2.get 0 _ rfl,aG.out.get 0 _ rfl,aG.out.get 1 _ rfl,aG.out.get 2 _ rfl,aG.out.get 3 _ rfl,aG.out.get 4 _ rfl,aG.out.get 5 _ rfl,aG.out.get 6 _ rfl⟩
       refine bF (fun w'=>w'.cell? ⟨R,0,none⟩=some V∧w'.cell? ⟨D,0,none⟩=some (.string ⟨nm.toArray⟩)∧w'.cell? ⟨D,1,none⟩=some (.int .i64 4)∧w'.cell? ⟨D,2,none⟩=some (.int .i64 A)∧w'.cell? ⟨D,3,none⟩=some (.int .u8 p)∧w'.cell? ⟨D,4,none⟩=some (.slice none 0 0)∧w'.cell? ⟨D,5,none⟩=some (.slice none 0 0)∧w'.cell? ⟨D,6,none⟩=some (.slice none 0 0)) 8 (by kernel_rfl) hS0 (fun hS inv=>?_)
       clear hS0 bU bM eY hD7
       generalize World.drew w7=wd at*
       revert inv
       refine rP 0 hS ?_
       refine rP 1 hS ?_
       refine rP 2 hS ?_
       refine rP 3 hS ?_
       refine rP 4 hS ?_
       refine rL 5 [8] rfl hS (by intro w hSw;obtain⟨s0,s1,s2,s3,s4,s5,s6,s7⟩:=hSw;go_simp;try with_reducible rfl) ?_
       refine rL 6 [7,8] rfl hS (by intro w hSw;obtain⟨s0,s1,s2,s3,s4,s5,s6,s7⟩:=hSw;go_simp;try with_reducible rfl) ?_
       intro inv
       refine rO 7 inv fun K hK=>?_
       rw[if_pos (by rfl)]
       obtain⟨eB,hi0,hz0,hz1,hz2⟩:=info_parts Tryd.infoDevice
       refine wp_buildSlice 22 37 1 #[(0,.tmp 99)] rfl #[.string ⟨nm.toArray⟩,.int .i64 4,.int .i64 A,.int .u8 p,.slice none 0 0,.slice none 0 0,.slice none 0 0] eB _ Tryd.underlying22 hi0 hz0 (by rw[hz1];omega) (by rw[hz1];omega) (by rw[hz1,Array.toList_map];exact d9 ⟨nm.toArray⟩ 4 A p none none none 0 0 0 0 0 0) ?_
       have ak:=below_alloc2 wd (.cells #[.string ⟨nm.toArray⟩,.int .i64 4,.int .i64 A,.int .u8 p,.slice none 0 0,.slice none 0 0,.slice none 0 0] 37)
       have aO:=hide (Bx.new wd #[.string ⟨nm.toArray⟩,.int .i64 4,.int .i64 A,.int .u8 p,.slice none 0 0,.slice none 0 0,.slice none 0 0] 37)
       have aS:=hide (bg.out.trans (ak.mono (by omega)))
       have au:=hide (bI.out _ (bg.out.trans (ak.mono (by omega)))).1
       have bq:=hide (bI.out _ (bg.out.trans (ak.mono (by omega)))).2
       have bZ:=hide (show eZ _ (R+1) ⟨⟨nm.toArray⟩,4,A,p,none,0,0,[],none,0,0,[],none,0,0,[]⟩from⟨own_below bQ.out.1 ak,bQ.out.2⟩)
       have bW:=hide (show(wd.alloc (.cells #[.string ⟨nm.toArray⟩,.int .i64 4,.int .i64 A,.int .u8 p,.slice none 0 0,.slice none 0 0,.slice none 0 0] 37)).heap.size =wd.heap.size+1 from by simp)
       have hSS:(wd.alloc (.cells #[.string ⟨nm.toArray⟩,.int .i64 4,.int .i64 A,.int .u8 p,.slice none 0 0,.slice none 0 0,.slice none 0 0] 37)).cell? ⟨R,0,none⟩=some V:=bq.out.get 0 _ rfl
       have aI:=hide (aG.out.below ak)
       clear ak bg aG bQ hS
       generalize World.alloc wd _=aA at*
       have hS:aA.cell? ⟨R,0,none⟩=some V∧aA.cell? ⟨D,0,none⟩=some (.string ⟨nm.toArray⟩)∧aA.cell? ⟨D,1,none⟩=some (.int .i64 4)∧aA.cell? ⟨D,2,none⟩=some (.int .i64 A)∧aA.cell? ⟨D,3,none⟩=some (.int .u8 p)∧aA.cell? ⟨D,4,none⟩=some (.slice none 0 0)∧aA.cell? ⟨D,5,none⟩=some (.slice none 0 0)∧aA.cell? ⟨D,6,none⟩=some (.slice none 0 0):=
        ⟨hSS,aI.out.get 0 _ rfl,aI.out.get 1 _ rfl,aI.out.get 2 _ rfl,aI.out.get 3 _ rfl,aI.out.get 4 _ rfl,aI.out.get 5 _ rfl,aI.out.get 6 _ rfl⟩
       refine hK.out _ _ (fun _=>hS) ?_
       clear hK K hS inv
       intro inv
       try simp only[Act.put,aB,aC,aD]
       refine rT 8 inv fun K hK=>?_
       rw[if_pos (by rfl)]
       have iD:=bW.out
       have hdl:=gI.out
       refine aZ _ (.tmp 98) (.tmp 100) 22 rfl (R+1) 37 eB _ 7 112 Tryd.underlying22 hi0 hz0 hz1 hz2 rfl (by omega) V ds.length (ds.flatMap ah.cells) rfl au.out.d (wd.heap.size+1) (some ⟨wd.heap.size,0,none⟩) 1 1 (ah.cells ⟨⟨nm.toArray⟩,4,A,p,none,0,0,[],none,0,0,[],none,0,0,[]⟩) rfl ⟨rfl,fun _=>⟨_,rfl,Nat.lt_succ_self _,fun j' u hu=>by
        rw[addr_add,Nat.zero_add]
        exact aO.out.get j' u (by simpa[ah.cells]using hu)⟩⟩ (ah.one _) (by simp only[maxLen];omega) (by omega) (by omega) ?_
       intro v9 w9 aH aN bX
       obtain⟨g9,c9,rfl,_⟩:=aH.form (by omega)
       have dh:=hide (au.out.gX (x:=⟨⟨nm.toArray⟩,4,A,p,none,0,0,[],none,0,0,[],none,0,0,[]⟩) ji.out bZ.out ⟨rfl,rfl,rfl,rfl⟩ ⟨rfl,rfl,rfl,rfl⟩ aH aN)
       have aT:=hide (bq.out.same (aY aN (by omega) (fun e=>by have:=(au.out.d.lt _ e).1;omega)))
       have bS:=hide (show Below R W w9 from(aS.out.mono (by omega)).grown aN (by omega) (fun j hj=>by have:=(au.out.d.lt _ hj).1;omega))
       have s0:w9.cell? ⟨R,0,none⟩=some V:=aT.out.get 0 _ rfl
       have f0:w9.frozen? ⟨R,0,none⟩=false:=aT.out.frozen 0
       clear aH aN bX au bq aS bZ aO hSS
       refine hK.out _ _ ?_
       clear hK K inv
       intro inv
       try simp only[Act.put,aB,aC,aD]
       refine rT 9 inv fun K hK=>?_
       go_simp
       refine hK.out _ _ ?_
       clear hK K inv
       intro inv
       try simp only[Act.put,aB,aC,aD]
       refine rT 10 inv fun K hK=>?_
       go_simp
       refine hK.out _ _ ?_
       clear hK K inv
       intro inv
       try simp only[Act.put,aB,aC,aD]
       refine rT 11 inv fun K hK=>?_
       go_simp
       refine hK.out _ _ ?_
       clear hK K inv
       intro inv
       try simp only[Act.put,aB,aC,aD]
       refine rT 12 inv fun K hK=>?_
       go_simp
       refine hK.out _ _ ?_
       clear hK K inv
       intro inv
       try simp only[Act.put,aB,aC,aD]
       refine rD ?_
       clear inv
       clear s0 f0
       have fD:=hide (aT.out.set 0 (.slice (some ⟨g9,0,none⟩) (ds.length+1) c9))
       have iN:=hide (dh.out.same (w':=w9.setCell ⟨R,0,none⟩ (.slice (some ⟨g9,0,none⟩) (ds.length+1) c9)) (fun q h1 h2=>RowKit.Below.heap_setCell _ _ _ _ (show q≠R by omega)))
       have aQ:=hide (bS.out.setCell (p:=⟨R,0,none⟩) (Nat.le_refl R) (.slice (some ⟨g9,0,none⟩) (ds.length+1) c9))
       generalize World.setCell w9 _ _=fH at*
       clear aT dh bS
       go_wp2_with fail
       go_ret
       exact⟨aQ.out,.inl ⟨HF.out,rfl⟩⟩
      ·rw[hpn]at HF
       have bU:=hide hX
       have eY:=hide (gV w6 (R+1) ⟨nm.toArray⟩ 4 A p)
       have ji:=hide (gJ (bA:=none) (bn:=0) (bc:=0) hnl (show -1≤(4:Int)∧(4:Int)≤100 by omega) mR hp (bs:=[]) (fun y hy=>(nomatch hy)))
       clear hX hpn hb6 hp
       go_wp2_with fail
       generalize w6=w7 at*
       have bg:=hide (bM.out.drew)
       have aG:=hide (show Bx w7.drew D #[.string ⟨nm.toArray⟩,.int .i64 4,.int .i64 A,.int .u8 p,.slice none 0 0,.slice none 0 0,.slice none 0 0] 37 from bU.out)
       have bQ:=hide (show eZ w7.drew (R+1) ⟨⟨nm.toArray⟩,4,A,p,none,0,0,[],none,0,0,[],none,0,0,[]⟩from eY.out)
       have lK:D+1≤w7.drew.heap.size:=hD7
       have hS0:w7.drew.cell? ⟨R,0,none⟩=some V∧w7.drew.cell? ⟨D,0,none⟩=some (.string ⟨nm.toArray⟩)∧w7.drew.cell? ⟨D,1,none⟩=some (.int .i64 4)∧w7.drew.cell? ⟨D,2,none⟩=some (.int .i64 A)∧w7.drew.cell? ⟨D,3,none⟩=some (.int .u8 p)∧w7.drew.cell? ⟨D,4,none⟩=some (.slice none 0 0)∧w7.drew.cell? ⟨D,5,none⟩=some (.slice none 0 0)∧w7.drew.cell? ⟨D,6,none⟩=some (.slice none 0 0):=
        ⟨(bI.out _ bg.out).2.get 0 _ rfl,aG.out.get 0 _ rfl,aG.out.get 1 _ rfl,aG.out.get 2 _ rfl,aG.out.get 3 _ rfl,aG.out.get 4 _ rfl,aG.out.get 5 _ rfl,aG.out.get 6 _ rfl⟩
       refine bF (fun w'=>w'.cell? ⟨R,0,none⟩=some V∧w'.cell? ⟨D,0,none⟩=some (.string ⟨nm.toArray⟩)∧w'.cell? ⟨D,1,none⟩=some (.int .i64 4)∧w'.cell? ⟨D,2,none⟩=some (.int .i64 A)∧w'.cell? ⟨D,3,none⟩=some (.int .u8 p)∧w'.cell? ⟨D,4,none⟩=some (.slice none 0 0)∧w'.cell? ⟨D,5,none⟩=some (.slice none 0 0)∧w'.cell? ⟨D,6,none⟩=some (.slice none 0 0)) 8 (by kernel_rfl) hS0 (fun hS inv=>?_)
       clear hS0 bU bM eY hD7
       generalize World.drew w7=wd at*
       revert inv
       refine rP 0 hS ?_
       refine rP 1 hS ?_
       refine rP 2 hS ?_
       refine rP 3 hS ?_
       refine rP 4 hS ?_
       refine rL 5 [8] rfl hS (by intro w hSw;obtain⟨s0,s1,s2,s3,s4,s5,s6,s7⟩:=hSw;go_simp;try with_reducible rfl) ?_
       refine rL 6 [7,8] rfl hS (by intro w hSw;obtain⟨s0,s1,s2,s3,s4,s5,s6,s7⟩:=hSw;go_simp;try with_reducible rfl) ?_
       intro inv
       refine rO 7 inv fun K hK=>?_
       rw[if_pos (by rfl)]
       obtain⟨eB,hi0,hz0,hz1,hz2⟩:=info_parts Tryd.infoDevice
       refine wp_buildSlice 22 37 1 #[(0,.tmp 99)] rfl #[.string ⟨nm.toArray⟩,.int .i64 4,.int .i64 A,.int .u8 p,.slice none 0 0,.slice none 0 0,.slice none 0 0] eB _ Tryd.underlying22 hi0 hz0 (by rw[hz1];omega) (by rw[hz1];omega) (by rw[hz1,Array.toList_map];exact d9 ⟨nm.toArray⟩ 4 A p none none none 0 0 0 0 0 0) ?_
       have ak:=below_alloc2 wd (.cells #[.string ⟨nm.toArray⟩,.int .i64 4,.int .i64 A,.int .u8 p,.slice none 0 0,.slice none 0 0,.slice none 0 0] 37)
       have aO:=hide (Bx.new wd #[.string ⟨nm.toArray⟩,.int .i64 4,.int .i64 A,.int .u8 p,.slice none 0 0,.slice none 0 0,.slice none 0 0] 37)
       have aS:=hide (bg.out.trans (ak.mono (by omega)))
       have au:=hide (bI.out _ (bg.out.trans (ak.mono (by omega)))).1
       have bq:=hide (bI.out _ (bg.out.trans (ak.mono (by omega)))).2
       have bZ:=hide (show eZ _ (R+1) ⟨⟨nm.toArray⟩,4,A,p,none,0,0,[],none,0,0,[],none,0,0,[]⟩from⟨own_below bQ.out.1 ak,bQ.out.2⟩)
       have bW:=hide (show(wd.alloc (.cells #[.string ⟨nm.toArray⟩,.int .i64 4,.int .i64 A,.int .u8 p,.slice none 0 0,.slice none 0 0,.slice none 0 0] 37)).heap.size =wd.heap.size+1 from by simp)
       have hSS:(wd.alloc (.cells #[.string ⟨nm.toArray⟩,.int .i64 4,.int .i64 A,.int .u8 p,.slice none 0 0,.slice none 0 0,.slice none 0 0] 37)).cell? ⟨R,0,none⟩=some V:=bq.out.get 0 _ rfl
       have aI:=hide (aG.out.below ak)
       clear ak bg aG bQ hS
       generalize World.alloc wd _=aA at*
       have hS:aA.cell? ⟨R,0,none⟩=some V∧aA.cell? ⟨D,0,none⟩=some (.string ⟨nm.toArray⟩)∧aA.cell? ⟨D,1,none⟩=some (.int .i64 4)∧aA.cell? ⟨D,2,none⟩=some (.int .i64 A)∧aA.cell? ⟨D,3,none⟩=some (.int .u8 p)∧aA.cell? ⟨D,4,none⟩=some (.slice none 0 0)∧aA.cell? ⟨D,5,none⟩=some (.slice none 0 0)∧aA.cell? ⟨D,6,none⟩=some (.slice none 0 0):=
        ⟨hSS,aI.out.get 0 _ rfl,aI.out.get 1 _ rfl,aI.out.get 2 _ rfl,aI.out.get 3 _ rfl,aI.out.get 4 _ rfl,aI.out.get 5 _ rfl,aI.out.get 6 _ rfl⟩
       refine hK.out _ _ (fun _=>hS) ?_
       clear hK K hS inv
       intro inv
       try simp only[Act.put,aB,aC,aD]
       refine rT 8 inv fun K hK=>?_
       rw[if_pos (by rfl)]
       have iD:=bW.out
       have hdl:=gI.out
       refine aZ _ (.tmp 98) (.tmp 100) 22 rfl (R+1) 37 eB _ 7 112 Tryd.underlying22 hi0 hz0 hz1 hz2 rfl (by omega) V ds.length (ds.flatMap ah.cells) rfl au.out.d (wd.heap.size+1) (some ⟨wd.heap.size,0,none⟩) 1 1 (ah.cells ⟨⟨nm.toArray⟩,4,A,p,none,0,0,[],none,0,0,[],none,0,0,[]⟩) rfl ⟨rfl,fun _=>⟨_,rfl,Nat.lt_succ_self _,fun j' u hu=>by
        rw[addr_add,Nat.zero_add]
        exact aO.out.get j' u (by simpa[ah.cells]using hu)⟩⟩ (ah.one _) (by simp only[maxLen];omega) (by omega) (by omega) ?_
       intro v9 w9 aH aN bX
       obtain⟨g9,c9,rfl,_⟩:=aH.form (by omega)
       have dh:=hide (au.out.gX (x:=⟨⟨nm.toArray⟩,4,A,p,none,0,0,[],none,0,0,[],none,0,0,[]⟩) ji.out bZ.out ⟨rfl,rfl,rfl,rfl⟩ ⟨rfl,rfl,rfl,rfl⟩ aH aN)
       have aT:=hide (bq.out.same (aY aN (by omega) (fun e=>by have:=(au.out.d.lt _ e).1;omega)))
       have bS:=hide (show Below R W w9 from(aS.out.mono (by omega)).grown aN (by omega) (fun j hj=>by have:=(au.out.d.lt _ hj).1;omega))
       have s0:w9.cell? ⟨R,0,none⟩=some V:=aT.out.get 0 _ rfl
       have f0:w9.frozen? ⟨R,0,none⟩=false:=aT.out.frozen 0
       clear aH aN bX au bq aS bZ aO hSS
       refine hK.out _ _ ?_
       clear hK K inv
       intro inv
       try simp only[Act.put,aB,aC,aD]
       refine rT 9 inv fun K hK=>?_
       go_simp
       refine hK.out _ _ ?_
       clear hK K inv
       intro inv
       try simp only[Act.put,aB,aC,aD]
       refine rT 10 inv fun K hK=>?_
       go_simp
       refine hK.out _ _ ?_
       clear hK K inv
       intro inv
       try simp only[Act.put,aB,aC,aD]
       refine rT 11 inv fun K hK=>?_
       go_simp
       refine hK.out _ _ ?_
       clear hK K inv
       intro inv
       try simp only[Act.put,aB,aC,aD]
       refine rT 12 inv fun K hK=>?_
       go_simp
       refine hK.out _ _ ?_
       clear hK K inv
       intro inv
       try simp only[Act.put,aB,aC,aD]
       refine rD ?_
       clear inv
       clear s0 f0
       have fD:=hide (aT.out.set 0 (.slice (some ⟨g9,0,none⟩) (ds.length+1) c9))
       have iN:=hide (dh.out.same (w':=w9.setCell ⟨R,0,none⟩ (.slice (some ⟨g9,0,none⟩) (ds.length+1) c9)) (fun q h1 h2=>RowKit.Below.heap_setCell _ _ _ _ (show q≠R by omega)))
       have aQ:=hide (bS.out.setCell (p:=⟨R,0,none⟩) (Nat.le_refl R) (.slice (some ⟨g9,0,none⟩) (ds.length+1) c9))
       generalize World.setCell w9 _ _=fH at*
       clear aT dh bS
       go_wp2_with fail
       go_ret
       refine⟨aQ.out,.inr ⟨_,HF.out,rfl,_,_,_,?_,iN.out,by rw[List.map_append,jE.out];rfl⟩⟩
       have hb:=fD.out
       exact hb
  case neg=>
   exfalso
   have:=mG (x:=x) (fun j h1 h2=>bC.out j h1 (by omega))
   omega
end Go.Proofs.YtifkacnoiocebaaDoor
