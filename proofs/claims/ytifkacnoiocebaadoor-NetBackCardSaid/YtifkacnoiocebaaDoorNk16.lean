/- A part of the proof: Nr11, Nr12. -/
import Derived.Test.YtifkacnoiocebaaDoorNk15
import Derived.Great.BuildSlice
set_option linter.unusedVariables false
set_option linter.unusedSimpArgs false
set_option maxRecDepth 100000
set_option maxHeartbeats 8000000
namespace Go.Proofs.YtifkacnoiocebaaDoor
open Go.RowKit
theorem dZ (S:dH) (x nm:List UInt8) (rest:List (List UInt8)) (h:S.ls≠[]∨bT ⟨nm.toArray⟩=false):cB S (x::nm::rest)=none:=by
 simp only[cB]
 exact if_pos h
theorem lD {S:dH} {x:List UInt8} {rest:List (List UInt8)} {k:Nat} (hk:1≤k∧k≤5) (hx:fC x=k) (h:rest.length+1≠pJ k):cB S (x::rest)=none:=by
 cases rest with
 |nil=>rfl
 |cons nm rest=>
  simp only[cB,hx]
  split
  ·rfl
  ·rcases(by omega:k=1∨k=2∨k=3∨k=4∨k=5)with rfl | rfl | rfl | rfl | rfl
   all_goals
    cases rest with
    |nil=>first | rfl | (exfalso;exact h rfl)
    |cons a t=>cases t with
     |nil=>first | rfl | (exfalso;exact h rfl)
     |cons b u=>cases u with
      |nil=>first | rfl | (exfalso;exact h rfl)
      |cons c v=>first | rfl | (simp[pJ]at h)
theorem fV (nm:ByteArray) (kd ad pl:Int) (bA rA tA:Option Addr) (bn bc rn rc tn tc:Nat):
  Instr.fill (fun i=>some (i*7,7)) ((Array.range (1*7)).map ((Value.agg #[.string ⟨#[]⟩,.int .i64 0,.int .i64 0,.int .u8 0,.slice none 0 0,.slice none 0 0,.slice none 0 0]).cells[· % (Value.agg #[.string ⟨#[]⟩,.int .i64 0,.int .i64 0,.int .u8 0,.slice none 0 0,.slice none 0 0,.slice none 0 0]).cells.size]!)) [(0,.agg #[.string nm,.int .i64 kd,.int .i64 ad,.int .u8 pl,.slice bA bn bc,.slice rA rn rc,.slice tA tn tc])]=some #[.string nm,.int .i64 kd,.int .i64 ad,.int .u8 pl,.slice bA bn bc,.slice rA rn rc,.slice tA tn tc]:=by kernel_rfl
theorem gQ (w:World) (lo:Nat) (nm:ByteArray) (kd ad:Int) (pl:Nat):fI w lo ⟨nm,kd,ad,pl,none,0,0,[],none,0,0,[],none,0,0,[]⟩:=⟨World.ownsRow_nil _ _ _ _,rfl⟩
theorem gM {nm:List UInt8} {kd ad:Int} {pl:Nat} {bA:Option Addr} {bn bc:Nat} {bs:List Int} (h1:nm.length≤5000) (h2: -1≤kd∧kd≤100) (h3: -1≤ad∧ad≤100) (h4:pl<256) (h5:∀y∈bs,-1≤y∧y≤100):uG ⟨⟨nm.toArray⟩,kd,ad,pl,bA,bn,bc,bs,none,0,0,[],none,0,0,[]⟩:=
 ⟨by show nm.toArray.size≤maxLen;rw[List.size_toArray];simp only[maxLen];omega,by show bB kd;unfold bB;omega,by show bB ad;unfold bB;omega,h4,fun y hy=>by have:=h5 y hy;unfold bB;omega,fun y hy=>(nomatch hy),fun y hy=>(nomatch hy)⟩
theorem D7 (R:Nat) (S:dH) (x:List UInt8) (rest:List (List UInt8)) (base g n cap:Nat) (W:World) (hm:dF W) (hR:kY iZ 41 W R S) (hS:dO S 10000) (hw:bR W base g n cap (x::rest)) (hwo:mF (x::rest)) (hgR:R<g) (hkx:fC x=2):
  Calls Tryd.prog 31 #[.pointer (some ⟨R,0,none⟩),.slice (some ⟨g,0,none⟩) n cap] W (kZ iZ 41 R (cB S (x::rest)) W):=by
 have hn:=hw.len
 simp only[List.length_cons]at hn
 have hgl:=hw.lt.2
 have hRl:=hR.lt
 have qF:=hwo.len
 have iL:=hwo.each
 have zw:=hide hm
 obtain⟨ds,V,L,hbx,dQ,hds⟩:=hR
 have oU:=hide hds
 have dP:Bx W R #[V,L,.bool (!S.ls.isEmpty)] 41:=hbx
 have bE:=hide (fun(w':World) (hb:Below W.heap.size W w')=>show NG w' (R+1) ds S.ls V L∧Bx w' R #[V,L,.bool (!S.ls.isEmpty)] 41 from⟨dQ.below hb,dP.below hb⟩)
 have jk:=hide (show ds.length≤10000 from by have:=hS.d;rw[← hds,List.length_map]at this;exact this)
 have jG:=hide (fun(w':World) (hb:Below W.heap.size W w') (k:Nat) (y:List UInt8) (h:(x::rest)[k]?=some y)=>show w'.cell? ⟨g,k,none⟩=some (.string ⟨y.toArray⟩)from(hw.below hb).get h)
 clear hbx dP dQ hds hS hwo hm
 have gZ:=hide (Bx.new W #[.string ⟨#[]⟩,.int .i64 1,.int .i64 0,.int .u8 0,.slice none 0 0,.slice none 0 0,.slice none 0 0] 37)
 have HB0:=hide (below_alloc2 W (.cells #[.string ⟨#[]⟩,.int .i64 1,.int .i64 0,.int .u8 0,.slice none 0 0,.slice none 0 0,.slice none 0 0] 37))
 have jL:=hide (show(W.alloc (.cells #[.string ⟨#[]⟩,.int .i64 1,.int .i64 0,.int .u8 0,.slice none 0 0,.slice none 0 0,.slice none 0 0] 37)).heap.size =W.heap.size+1 from by simp)
 obtain⟨D,hD⟩:∃D,W.heap.size=D:=⟨_,rfl⟩
 rw[hD]at gZ HB0 jL
 have HW:=hide hw
 have qL:=hide (fun(w':World) (hb:Below D W w')=>show w'.cell? ⟨g,0,none⟩=some (.string ⟨x.toArray⟩)from(hb.cell (p:=⟨g,0,none⟩) (by show g<D;omega)).trans (hw.get (k:=0) rfl))
 clear hw
 go_enter Tryd.func31,Tryd.ntmps31
 go_wp2_with fail
 generalize World.alloc W _=W1 at*
 have Bj:W1.heap.size=D+1:=jL.out
 go_loopw [] (fun wr=>∃k:Nat,1≤k∧k≤6∧Hid (∀j:Nat,1≤j→j<k→aN (j:Int)≠x)∧Hid (Bx wr D #[.string ⟨#[]⟩,.int .i64 (k:Int),.int .i64 0,.int .u8 0,.slice none 0 0,.slice none 0 0,.slice none 0 0] 37)∧Hid (Below D W wr)∧D+1≤wr.heap.size) (fun wr=>qK D wr)
 case atStart=>exact⟨1,by omega,by omega,hide (fun j h1 h2=>by omega),gZ,HB0,by omega⟩
 case round=>
  obtain⟨k,hk1,Bl,bP,HX,HB,hsz⟩:=hrel
  have lC:=hide (iq HX.out)
  have hg0:=qL.out wr HB.out
  have x1:wr.cell? ⟨D,1,none⟩=some (.int .i64 (k:Int)):=HX.out.get 1 _ rfl
  by_cases hk5:k≤5
  case pos=>
   have d5:decide ((k:Int)≤5)=true:=decide_eq_true (by omega)
   have iC:=hide (fun w=>jf (k:Int) w (by omega))
   have hn0:(0:Int)<(n:Int):=by omega
   have hn1:0<n:=by omega
   by_cases hxk:aN (k:Int)=x
   case neg=>
    have e1:(aN (k:Int)==x)=false:=by simpa using hxk
    have e2:(aN (k:Int) != x)=true:=by simpa using hxk
    go_wp2_with fail
    refine aU (by kernel_rfl) (by kernel_rfl) ?_
    intro T hT gt hg1 hgi
    have aO:=hide hg1
    have eX:=hide hgi
    have k0:∀t,(gt t).cell? ⟨g,0,none⟩=some (.string ⟨x.toArray⟩):=fun t=>((hg1 t).cell (p:=⟨g,0,none⟩) (by show g<_;omega)).trans hg0
    have k1:∀t,(gt t).cell? ⟨D,1,none⟩=some (.int .i64 (k:Int)):=fun t=>((hg1 t).cell (p:=⟨D,1,none⟩) (by show D<_;omega)).trans x1
    clear hg1 hgi
    repeat (go_big_quiet_step ((go_at_call 51;exact bX (iC.out _))))
    refine wpQuiet_nil ?_
    intro _ hw'
    obtain⟨t,rfl⟩:=hw'
    have bC:=hide (HX.out.below (aO.out t))
    have ak:=hide (HB.out.trans ((aO.out t).mono (by omega)))
    have jM:D+1≤(gt t).heap.size :=by have:=(aO.out t).size;omega
    have y1:(gt t).cell? ⟨D,1,none⟩=some (.int .i64 (k:Int)):=bC.out.get 1 _ rfl
    have y2:(gt t).frozen? ⟨D,1,none⟩=false:=bC.out.frozen 1
    generalize gt t=w4 at*
    clear aO eX k0 k1 x1 hg0
    go_wp2_with fail
    have mg:=hide (show Bx (w4.setCell ⟨D,1,none⟩ (.int .i64 ((k:Int)+1))) D #[.string ⟨#[]⟩,.int .i64 ((k+1:Nat):Int),.int .i64 0,.int .u8 0,.slice none 0 0,.slice none 0 0,.slice none 0 0] 37 from by
     have h:=bC.out.set 1 (.int .i64 ((k:Int)+1))
     exact h)
    have nH:=hide (iq mg.out)
    go_roundw
    case rel=>exact⟨k+1,by omega,by omega,hide (fun j h1 h2=>by
     rcases(by omega:j<k∨j=k)with h | rfl
     ·exact bP.out j h1 h
     ·exact hxk),mg,hide (ak.out.setCell (p:=⟨D,1,none⟩) (Nat.le_refl D) _),by rw[size_setCell];exact jM⟩
    case measure=>rw[nH.out,lC.out];omega
   case pos=>
    obtain rfl:k=2:=by
     have:=jU hk1 hk5 hxk bP.out
     omega
    have e1:(aN 2==x)=true:=by simpa using hxk
    have e2:(aN 2 != x)=false:=by simpa using hxk
    go_wp2_with fail
    rw[show(((2:Nat):Int))=2 from rfl]at x1 iC
    refine aU (by kernel_rfl) (by kernel_rfl) ?_
    intro T hT gt hg1 hgi
    have aO:=hide hg1
    have eX:=hide hgi
    have k0:∀t,(gt t).cell? ⟨g,0,none⟩=some (.string ⟨x.toArray⟩):=fun t=>((hg1 t).cell (p:=⟨g,0,none⟩) (by show g<_;omega)).trans hg0
    have k1:∀t,(gt t).cell? ⟨D,1,none⟩=some (.int .i64 2):=fun t=>((hg1 t).cell (p:=⟨D,1,none⟩) (by show D<_;omega)).trans x1
    clear hg1 hgi
    repeat (go_big_quiet_step ((go_at_call 51;exact bX (iC.out _))))
    refine wpQuiet_nil ?_
    intro _ hw'
    obtain⟨t,rfl⟩:=hw'
    have bC:=hide (HX.out.below (aO.out t))
    have ak:=hide (HB.out.trans ((aO.out t).mono (by omega)))
    have jM:D+1≤(gt t).heap.size :=by have:=(aO.out t).size;omega
    have y1:(gt t).cell? ⟨D,1,none⟩=some (.int .i64 2):=bC.out.get 1 _ rfl
    have y2:(gt t).frozen? ⟨D,1,none⟩=false:=bC.out.frozen 1
    have ya:∀o,((gt t).alloc o).cell? ⟨D,1,none⟩=some (.int .i64 2):=fun o=>(bC.out.below (below_alloc2 _ o)).get 1 _ rfl
    generalize gt t=w4 at*
    clear aO eX k0 k1 x1 hg0 bP lC HX HB hsz
    have dR:=hide (ak.out.trans ((below_alloc2 w4 (.cells #[.int .i64 0,.int .i64 3,.int .i64 2,.int .i64 2,.int .i64 4,.int .i64 4] 3)).mono (by omega)))
    have gB:=hide (bC.out.below (below_alloc2 w4 (.cells #[.int .i64 0,.int .i64 3,.int .i64 2,.int .i64 2,.int .i64 4,.int .i64 4] 3)))
    have uL:(w4.alloc (.cells #[.int .i64 0,.int .i64 3,.int .i64 2,.int .i64 2,.int .i64 4,.int .i64 4] 3)).heap.size =w4.heap.size+1:=by simp
    rw[hD]at jG bE
    by_cases hw2:n=2
    case neg=>
     have d2:((n:Int)==2)=false:=by simp;omega
     have d3:((n:Int) != 2)=true:=by simp;omega
     have HF:=hide (lD (S:=S) (by omega) hkx (show rest.length+1≠pJ 2 from by rw[hn];exact hw2))
     go_wp2_with fail
     go_ret
     exact⟨dR.out.mono (by omega),.inl ⟨HF.out,rfl⟩⟩
    case pos=>
    subst hw2
    obtain⟨nm,rest,rfl⟩:∃a t,rest=a::t:=by
     cases rest with
     |nil=>simp at hn
     |cons a t=>exact⟨a,t,rfl⟩
    obtain rfl:rest=[]:=by
     cases rest with
     |nil=>rfl
     |cons a t=>simp only[List.length_cons]at hn;omega
    have hnl:nm.length≤5000:=iL nm (by simp)
    have z1:∀o,(w4.alloc o).cell? ⟨g,1,none⟩=some (.string ⟨nm.toArray⟩):=fun o=>jG.out _ (ak.out.trans ((below_alloc2 w4 o).mono (by omega))) 1 nm rfl
    have tL:=hide (fun w=>jT ⟨nm.toArray⟩ w (by have:=iL nm (by simp);show nm.toArray.size≤maxLen;rw[List.size_toArray];simp only[maxLen];omega))
    have r2:∀o,(w4.alloc o).cell? ⟨R,2,none⟩=some (.bool (!S.ls.isEmpty)):=fun o=>(bE.out _ (ak.out.trans ((below_alloc2 w4 o).mono (by omega)))).2.get 2 _ rfl
    go_wp2_with fail
    refine(tL.out _).mono ?_
    rintro e w5 ⟨rfl,rfl⟩
    cases hnb:bT ⟨nm.toArray⟩
    case false=>
     have HF:=hide (dZ S x nm ([]) (.inr hnb))
     go_wp2_with fail
     go_ret
     exact⟨dR.out.mono (by omega),.inl ⟨HF.out,rfl⟩⟩
    case true=>
    cases hlb:S.ls.isEmpty
    case false=>
     have HF:=hide (dZ S x nm ([]) (.inl (by simpa using hlb)))
     go_wp2_with fail
     go_ret
     exact⟨dR.out.mono (by omega),.inl ⟨HF.out,rfl⟩⟩
    case true=>
    have HF:=hide (show cB S [x,nm]=some ⟨S.ds++[⟨⟨nm.toArray⟩,2,0,0,[],[],[]⟩],S.ls⟩from by
     simp only[cB,hkx]
     exact if_neg (by intro hc;rcases hc with hc | hc;exact hc (by simpa using hlb);exact absurd (show bT ⟨nm.toArray⟩=false from hc) (by rw[hnb];decide)))
    generalize World.alloc w4 _=w6 at*
    clear ya y1 y2 z1 r2 bC ak iC e1 e2
    have q1:w6.cell? ⟨g,1,none⟩=some (.string ⟨nm.toArray⟩):=jG.out _ dR.out 1 nm rfl
    have q0:w6.cell? ⟨D,0,none⟩=some (.string ⟨#[]⟩):=gB.out.get 0 _ rfl
    have q2:w6.frozen? ⟨D,0,none⟩=false:=gB.out.frozen 0
    have q3:w6.cell? ⟨R,2,none⟩=some (.bool false):=by
     have:=(bE.out _ dR.out).2.get 2 _ rfl
     rw[hlb]at this
     exact this
    have dx:=hide (gB.out.set 0 (.string ⟨nm.toArray⟩))
    have bM:=hide (dR.out.setCell (p:=⟨D,0,none⟩) (Nat.le_refl D) (.string ⟨nm.toArray⟩))
    have oG:=size_setCell w6 ⟨D,0,none⟩ (.string ⟨nm.toArray⟩)
    go_wp2_with fail
    have hD7:D+1≤(w6.setCell ⟨D,0,none⟩ (.string ⟨nm.toArray⟩)).heap.size :=by rw[oG];have:=gB.out.lt;omega
    generalize World.setCell w6 _ _=w7 at*
    have fZ:=hide (gQ w7 (R+1) ⟨nm.toArray⟩ 2 0 0)
    have jN:=hide (gM (bA:=none) (bn:=0) (bc:=0) hnl (show -1≤(2:Int)∧(2:Int)≤100 by omega) (show -1≤(0:Int)∧(0:Int)≤100 by omega) (show 0<256 by omega) (bs:=[]) (fun y hy=>(nomatch hy)))
    have aR:=hide (bM.out.drew)
    have aC:=hide (show Bx w7.drew D #[.string ⟨nm.toArray⟩,.int .i64 2,.int .i64 0,.int .u8 0,.slice none 0 0,.slice none 0 0,.slice none 0 0] 37 from dx.out)
    have bV:=hide (show fI w7.drew (R+1) ⟨⟨nm.toArray⟩,2,0,0,none,0,0,[],none,0,0,[],none,0,0,[]⟩from fZ.out)
    have nI:D+1≤w7.drew.heap.size:=hD7
    have hS0:w7.drew.cell? ⟨R,0,none⟩=some V∧w7.drew.cell? ⟨D,0,none⟩=some (.string ⟨nm.toArray⟩)∧w7.drew.cell? ⟨D,1,none⟩=some (.int .i64 2)∧w7.drew.cell? ⟨D,2,none⟩=some (.int .i64 0)∧w7.drew.cell? ⟨D,3,none⟩=some (.int .u8 0)∧w7.drew.cell? ⟨D,4,none⟩=some (.slice none 0 0)∧w7.drew.cell? ⟨D,5,none⟩=some (.slice none 0 0)∧w7.drew.cell? ⟨D,6,none⟩=some (.slice none 0 0):=
     ⟨(bE.out _ aR.out).2.get 0 _ rfl,aC.out.get 0 _ rfl,aC.out.get 1 _ rfl,aC.out.get 2 _ rfl,aC.out.get 3 _ rfl,aC.out.get 4 _ rfl,aC.out.get 5 _ rfl,aC.out.get 6 _ rfl⟩
    refine dz (fun w'=>w'.cell? ⟨R,0,none⟩=some V∧w'.cell? ⟨D,0,none⟩=some (.string ⟨nm.toArray⟩)∧w'.cell? ⟨D,1,none⟩=some (.int .i64 2)∧w'.cell? ⟨D,2,none⟩=some (.int .i64 0)∧w'.cell? ⟨D,3,none⟩=some (.int .u8 0)∧w'.cell? ⟨D,4,none⟩=some (.slice none 0 0)∧w'.cell? ⟨D,5,none⟩=some (.slice none 0 0)∧w'.cell? ⟨D,6,none⟩=some (.slice none 0 0)) 8 (by kernel_rfl) hS0 (fun hS inv=>?_)
    clear hS0 dx bM fZ hD7
    generalize World.drew w7=wd at*
    revert inv
    refine rP 0 hS ?_
    refine rP 1 hS ?_
    refine rP 2 hS ?_
    refine rP 3 hS ?_
    refine rP 4 hS ?_
    refine rL 5 [8] rfl hS (by intro w hSw;obtain⟨s0,s1,s2,s3,s4,s5,s6,s7⟩:=hSw;go_simp;try with_reducible rfl) ?_
    refine rL 6 [7,8] rfl hS (by intro w hSw;obtain⟨s0,s1,s2,s3,s4,s5,s6,s7⟩:=hSw;go_simp;try with_reducible rfl) ?_
    intro inv
    refine rO 7 inv fun K hK=>?_
    rw[if_pos (by rfl)]
    obtain⟨fP,hi0,hz0,hz1,hz2⟩:=info_parts Tryd.infoDevice
    refine wp_buildSlice 22 37 1 #[(0,.tmp 99)] rfl #[.string ⟨nm.toArray⟩,.int .i64 2,.int .i64 0,.int .u8 0,.slice none 0 0,.slice none 0 0,.slice none 0 0] fP _ Tryd.underlying22 hi0 hz0 (by rw[hz1];omega) (by rw[hz1];omega) (by rw[hz1,Array.toList_map];exact fV ⟨nm.toArray⟩ 2 0 0 none none none 0 0 0 0 0 0) ?_
    have aD:=below_alloc2 wd (.cells #[.string ⟨nm.toArray⟩,.int .i64 2,.int .i64 0,.int .u8 0,.slice none 0 0,.slice none 0 0,.slice none 0 0] 37)
    have dh:=hide (Bx.new wd #[.string ⟨nm.toArray⟩,.int .i64 2,.int .i64 0,.int .u8 0,.slice none 0 0,.slice none 0 0,.slice none 0 0] 37)
    have bZ:=hide (aR.out.trans (aD.mono (by omega)))
    have aF:=hide (bE.out _ (aR.out.trans (aD.mono (by omega)))).1
    have aX:=hide (bE.out _ (aR.out.trans (aD.mono (by omega)))).2
    have dw:=hide (show fI _ (R+1) ⟨⟨nm.toArray⟩,2,0,0,none,0,0,[],none,0,0,[],none,0,0,[]⟩from⟨own_below bV.out.1 aD,bV.out.2⟩)
    have fJ:=hide (show(wd.alloc (.cells #[.string ⟨nm.toArray⟩,.int .i64 2,.int .i64 0,.int .u8 0,.slice none 0 0,.slice none 0 0,.slice none 0 0] 37)).heap.size =wd.heap.size+1 from by simp)
    have hSS:(wd.alloc (.cells #[.string ⟨nm.toArray⟩,.int .i64 2,.int .i64 0,.int .u8 0,.slice none 0 0,.slice none 0 0,.slice none 0 0] 37)).cell? ⟨R,0,none⟩=some V:=aX.out.get 0 _ rfl
    have aG:=hide (aC.out.below aD)
    clear aD aR aC bV hS
    generalize World.alloc wd _=aM at*
    have hS:aM.cell? ⟨R,0,none⟩=some V∧aM.cell? ⟨D,0,none⟩=some (.string ⟨nm.toArray⟩)∧aM.cell? ⟨D,1,none⟩=some (.int .i64 2)∧aM.cell? ⟨D,2,none⟩=some (.int .i64 0)∧aM.cell? ⟨D,3,none⟩=some (.int .u8 0)∧aM.cell? ⟨D,4,none⟩=some (.slice none 0 0)∧aM.cell? ⟨D,5,none⟩=some (.slice none 0 0)∧aM.cell? ⟨D,6,none⟩=some (.slice none 0 0):=
     ⟨hSS,aG.out.get 0 _ rfl,aG.out.get 1 _ rfl,aG.out.get 2 _ rfl,aG.out.get 3 _ rfl,aG.out.get 4 _ rfl,aG.out.get 5 _ rfl,aG.out.get 6 _ rfl⟩
    refine hK.out _ _ (fun _=>hS) ?_
    clear hK K hS inv
    intro inv
    try simp only[Act.put,aJ,aK,aL]
    refine rT 8 inv fun K hK=>?_
    rw[if_pos (by rfl)]
    have lg:=fJ.out
    have hdl:=jk.out
    refine bG _ (.tmp 98) (.tmp 100) 22 rfl (R+1) 37 fP _ 7 112 Tryd.underlying22 hi0 hz0 hz1 hz2 rfl (by omega) V ds.length (ds.flatMap ah.cells) rfl aF.out.d (wd.heap.size+1) (some ⟨wd.heap.size,0,none⟩) 1 1 (ah.cells ⟨⟨nm.toArray⟩,2,0,0,none,0,0,[],none,0,0,[],none,0,0,[]⟩) rfl ⟨rfl,fun _=>⟨_,rfl,Nat.lt_succ_self _,fun j' u hu=>by
     rw[addr_add,Nat.zero_add]
     exact dh.out.get j' u (by simpa[ah.cells]using hu)⟩⟩ (ah.one _) (by simp only[maxLen];omega) (by omega) (by omega) ?_
    intro v9 w9 aP aV eF
    obtain⟨g9,c9,rfl,_⟩:=aP.form (by omega)
    have d9:=hide (aF.out.ig (x:=⟨⟨nm.toArray⟩,2,0,0,none,0,0,[],none,0,0,[],none,0,0,[]⟩) jN.out dw.out ⟨rfl,rfl,rfl,rfl⟩ ⟨rfl,rfl,rfl,rfl⟩ aP aV)
    have aT:=hide (aX.out.same (bJ aV (by omega) (fun e=>by have:=(aF.out.d.lt _ e).1;omega)))
    have eH:=hide (show Below R W w9 from(bZ.out.mono (by omega)).grown aV (by omega) (fun j hj=>by have:=(aF.out.d.lt _ hj).1;omega))
    have s0:w9.cell? ⟨R,0,none⟩=some V:=aT.out.get 0 _ rfl
    have f0:w9.frozen? ⟨R,0,none⟩=false:=aT.out.frozen 0
    clear aP aV eF aF aX bZ dw dh hSS
    refine hK.out _ _ ?_
    clear hK K inv
    intro inv
    try simp only[Act.put,aJ,aK,aL]
    refine rT 9 inv fun K hK=>?_
    go_simp
    refine hK.out _ _ ?_
    clear hK K inv
    intro inv
    try simp only[Act.put,aJ,aK,aL]
    refine rT 10 inv fun K hK=>?_
    go_simp
    refine hK.out _ _ ?_
    clear hK K inv
    intro inv
    try simp only[Act.put,aJ,aK,aL]
    refine rT 11 inv fun K hK=>?_
    go_simp
    refine hK.out _ _ ?_
    clear hK K inv
    intro inv
    try simp only[Act.put,aJ,aK,aL]
    refine rT 12 inv fun K hK=>?_
    go_simp
    refine hK.out _ _ ?_
    clear hK K inv
    intro inv
    try simp only[Act.put,aJ,aK,aL]
    refine rD ?_
    clear inv
    clear s0 f0
    have gV:=hide (aT.out.set 0 (.slice (some ⟨g9,0,none⟩) (ds.length+1) c9))
    have jD:=hide (d9.out.same (w':=w9.setCell ⟨R,0,none⟩ (.slice (some ⟨g9,0,none⟩) (ds.length+1) c9)) (fun q h1 h2=>RowKit.Below.heap_setCell _ _ _ _ (show q≠R by omega)))
    have eO:=hide (eH.out.setCell (p:=⟨R,0,none⟩) (Nat.le_refl R) (.slice (some ⟨g9,0,none⟩) (ds.length+1) c9))
    generalize World.setCell w9 _ _=nT at*
    clear aT d9 eH
    go_wp2_with fail
    go_ret
    refine⟨eO.out,.inr ⟨_,HF.out,rfl,_,_,_,?_,jD.out,by rw[List.map_append,oU.out];rfl⟩⟩
    have hb:=gV.out
    exact hb
  case neg=>
   exfalso
   have:=lu (x:=x) (fun j h1 h2=>bP.out j h1 (by omega))
   omega
theorem D8 (R:Nat) (S:dH) (x:List UInt8) (rest:List (List UInt8)) (base g n cap:Nat) (W:World) (hm:dF W) (hR:kY iZ 41 W R S) (hS:dO S 10000) (hw:bR W base g n cap (x::rest)) (hwo:mF (x::rest)) (hgR:R<g) (hkx:fC x=3):
  Calls Tryd.prog 31 #[.pointer (some ⟨R,0,none⟩),.slice (some ⟨g,0,none⟩) n cap] W (kZ iZ 41 R (cB S (x::rest)) W):=by
 have hn:=hw.len
 simp only[List.length_cons]at hn
 have hgl:=hw.lt.2
 have hRl:=hR.lt
 have qF:=hwo.len
 have iL:=hwo.each
 have zw:=hide hm
 obtain⟨ds,V,L,hbx,dQ,hds⟩:=hR
 have oU:=hide hds
 have dP:Bx W R #[V,L,.bool (!S.ls.isEmpty)] 41:=hbx
 have bE:=hide (fun(w':World) (hb:Below W.heap.size W w')=>show NG w' (R+1) ds S.ls V L∧Bx w' R #[V,L,.bool (!S.ls.isEmpty)] 41 from⟨dQ.below hb,dP.below hb⟩)
 have jk:=hide (show ds.length≤10000 from by have:=hS.d;rw[← hds,List.length_map]at this;exact this)
 have jG:=hide (fun(w':World) (hb:Below W.heap.size W w') (k:Nat) (y:List UInt8) (h:(x::rest)[k]?=some y)=>show w'.cell? ⟨g,k,none⟩=some (.string ⟨y.toArray⟩)from(hw.below hb).get h)
 clear hbx dP dQ hds hS hwo hm
 have gZ:=hide (Bx.new W #[.string ⟨#[]⟩,.int .i64 1,.int .i64 0,.int .u8 0,.slice none 0 0,.slice none 0 0,.slice none 0 0] 37)
 have HB0:=hide (below_alloc2 W (.cells #[.string ⟨#[]⟩,.int .i64 1,.int .i64 0,.int .u8 0,.slice none 0 0,.slice none 0 0,.slice none 0 0] 37))
 have jL:=hide (show(W.alloc (.cells #[.string ⟨#[]⟩,.int .i64 1,.int .i64 0,.int .u8 0,.slice none 0 0,.slice none 0 0,.slice none 0 0] 37)).heap.size =W.heap.size+1 from by simp)
 obtain⟨D,hD⟩:∃D,W.heap.size=D:=⟨_,rfl⟩
 rw[hD]at gZ HB0 jL
 have HW:=hide hw
 have qL:=hide (fun(w':World) (hb:Below D W w')=>show w'.cell? ⟨g,0,none⟩=some (.string ⟨x.toArray⟩)from(hb.cell (p:=⟨g,0,none⟩) (by show g<D;omega)).trans (hw.get (k:=0) rfl))
 clear hw
 go_enter Tryd.func31,Tryd.ntmps31
 go_wp2_with fail
 generalize World.alloc W _=W1 at*
 have Bj:W1.heap.size=D+1:=jL.out
 go_loopw [] (fun wr=>∃k:Nat,1≤k∧k≤6∧Hid (∀j:Nat,1≤j→j<k→aN (j:Int)≠x)∧Hid (Bx wr D #[.string ⟨#[]⟩,.int .i64 (k:Int),.int .i64 0,.int .u8 0,.slice none 0 0,.slice none 0 0,.slice none 0 0] 37)∧Hid (Below D W wr)∧D+1≤wr.heap.size) (fun wr=>qK D wr)
 case atStart=>exact⟨1,by omega,by omega,hide (fun j h1 h2=>by omega),gZ,HB0,by omega⟩
 case round=>
  obtain⟨k,hk1,Bl,bP,HX,HB,hsz⟩:=hrel
  have lC:=hide (iq HX.out)
  have hg0:=qL.out wr HB.out
  have x1:wr.cell? ⟨D,1,none⟩=some (.int .i64 (k:Int)):=HX.out.get 1 _ rfl
  by_cases hk5:k≤5
  case pos=>
   have d5:decide ((k:Int)≤5)=true:=decide_eq_true (by omega)
   have iC:=hide (fun w=>jf (k:Int) w (by omega))
   have hn0:(0:Int)<(n:Int):=by omega
   have hn1:0<n:=by omega
   by_cases hxk:aN (k:Int)=x
   case neg=>
    have e1:(aN (k:Int)==x)=false:=by simpa using hxk
    have e2:(aN (k:Int) != x)=true:=by simpa using hxk
    go_wp2_with fail
    refine aU (by kernel_rfl) (by kernel_rfl) ?_
    intro T hT gt hg1 hgi
    have aO:=hide hg1
    have eX:=hide hgi
    have k0:∀t,(gt t).cell? ⟨g,0,none⟩=some (.string ⟨x.toArray⟩):=fun t=>((hg1 t).cell (p:=⟨g,0,none⟩) (by show g<_;omega)).trans hg0
    have k1:∀t,(gt t).cell? ⟨D,1,none⟩=some (.int .i64 (k:Int)):=fun t=>((hg1 t).cell (p:=⟨D,1,none⟩) (by show D<_;omega)).trans x1
    clear hg1 hgi
    repeat (go_big_quiet_step ((go_at_call 51;exact bX (iC.out _))))
    refine wpQuiet_nil ?_
    intro _ hw'
    obtain⟨t,rfl⟩:=hw'
    have bC:=hide (HX.out.below (aO.out t))
    have ak:=hide (HB.out.trans ((aO.out t).mono (by omega)))
    have jM:D+1≤(gt t).heap.size :=by have:=(aO.out t).size;omega
    have y1:(gt t).cell? ⟨D,1,none⟩=some (.int .i64 (k:Int)):=bC.out.get 1 _ rfl
    have y2:(gt t).frozen? ⟨D,1,none⟩=false:=bC.out.frozen 1
    generalize gt t=w4 at*
    clear aO eX k0 k1 x1 hg0
    go_wp2_with fail
    have mg:=hide (show Bx (w4.setCell ⟨D,1,none⟩ (.int .i64 ((k:Int)+1))) D #[.string ⟨#[]⟩,.int .i64 ((k+1:Nat):Int),.int .i64 0,.int .u8 0,.slice none 0 0,.slice none 0 0,.slice none 0 0] 37 from by
     have h:=bC.out.set 1 (.int .i64 ((k:Int)+1))
     exact h)
    have nH:=hide (iq mg.out)
    go_roundw
    case rel=>exact⟨k+1,by omega,by omega,hide (fun j h1 h2=>by
     rcases(by omega:j<k∨j=k)with h | rfl
     ·exact bP.out j h1 h
     ·exact hxk),mg,hide (ak.out.setCell (p:=⟨D,1,none⟩) (Nat.le_refl D) _),by rw[size_setCell];exact jM⟩
    case measure=>rw[nH.out,lC.out];omega
   case pos=>
    obtain rfl:k=3:=by
     have:=jU hk1 hk5 hxk bP.out
     omega
    have e1:(aN 3==x)=true:=by simpa using hxk
    have e2:(aN 3 != x)=false:=by simpa using hxk
    go_wp2_with fail
    rw[show(((3:Nat):Int))=3 from rfl]at x1 iC
    refine aU (by kernel_rfl) (by kernel_rfl) ?_
    intro T hT gt hg1 hgi
    have aO:=hide hg1
    have eX:=hide hgi
    have k0:∀t,(gt t).cell? ⟨g,0,none⟩=some (.string ⟨x.toArray⟩):=fun t=>((hg1 t).cell (p:=⟨g,0,none⟩) (by show g<_;omega)).trans hg0
    have k1:∀t,(gt t).cell? ⟨D,1,none⟩=some (.int .i64 3):=fun t=>((hg1 t).cell (p:=⟨D,1,none⟩) (by show D<_;omega)).trans x1
    clear hg1 hgi
    repeat (go_big_quiet_step ((go_at_call 51;exact bX (iC.out _))))
    refine wpQuiet_nil ?_
    intro _ hw'
    obtain⟨t,rfl⟩:=hw'
    have bC:=hide (HX.out.below (aO.out t))
    have ak:=hide (HB.out.trans ((aO.out t).mono (by omega)))
    have jM:D+1≤(gt t).heap.size :=by have:=(aO.out t).size;omega
    have y1:(gt t).cell? ⟨D,1,none⟩=some (.int .i64 3):=bC.out.get 1 _ rfl
    have y2:(gt t).frozen? ⟨D,1,none⟩=false:=bC.out.frozen 1
    have ya:∀o,((gt t).alloc o).cell? ⟨D,1,none⟩=some (.int .i64 3):=fun o=>(bC.out.below (below_alloc2 _ o)).get 1 _ rfl
    generalize gt t=w4 at*
    clear aO eX k0 k1 x1 hg0 bP lC HX HB hsz
    have dR:=hide (ak.out.trans ((below_alloc2 w4 (.cells #[.int .i64 0,.int .i64 3,.int .i64 2,.int .i64 2,.int .i64 4,.int .i64 4] 3)).mono (by omega)))
    have gB:=hide (bC.out.below (below_alloc2 w4 (.cells #[.int .i64 0,.int .i64 3,.int .i64 2,.int .i64 2,.int .i64 4,.int .i64 4] 3)))
    have uL:(w4.alloc (.cells #[.int .i64 0,.int .i64 3,.int .i64 2,.int .i64 2,.int .i64 4,.int .i64 4] 3)).heap.size =w4.heap.size+1:=by simp
    rw[hD]at jG bE
    by_cases hw2:n=2
    case neg=>
     have d2:((n:Int)==2)=false:=by simp;omega
     have d3:((n:Int) != 2)=true:=by simp;omega
     have HF:=hide (lD (S:=S) (by omega) hkx (show rest.length+1≠pJ 3 from by rw[hn];exact hw2))
     go_wp2_with fail
     go_ret
     exact⟨dR.out.mono (by omega),.inl ⟨HF.out,rfl⟩⟩
    case pos=>
    subst hw2
    obtain⟨nm,rest,rfl⟩:∃a t,rest=a::t:=by
     cases rest with
     |nil=>simp at hn
     |cons a t=>exact⟨a,t,rfl⟩
    obtain rfl:rest=[]:=by
     cases rest with
     |nil=>rfl
     |cons a t=>simp only[List.length_cons]at hn;omega
    have hnl:nm.length≤5000:=iL nm (by simp)
    have z1:∀o,(w4.alloc o).cell? ⟨g,1,none⟩=some (.string ⟨nm.toArray⟩):=fun o=>jG.out _ (ak.out.trans ((below_alloc2 w4 o).mono (by omega))) 1 nm rfl
    have tL:=hide (fun w=>jT ⟨nm.toArray⟩ w (by have:=iL nm (by simp);show nm.toArray.size≤maxLen;rw[List.size_toArray];simp only[maxLen];omega))
    have r2:∀o,(w4.alloc o).cell? ⟨R,2,none⟩=some (.bool (!S.ls.isEmpty)):=fun o=>(bE.out _ (ak.out.trans ((below_alloc2 w4 o).mono (by omega)))).2.get 2 _ rfl
    go_wp2_with fail
    refine(tL.out _).mono ?_
    rintro e w5 ⟨rfl,rfl⟩
    cases hnb:bT ⟨nm.toArray⟩
    case false=>
     have HF:=hide (dZ S x nm ([]) (.inr hnb))
     go_wp2_with fail
     go_ret
     exact⟨dR.out.mono (by omega),.inl ⟨HF.out,rfl⟩⟩
    case true=>
    cases hlb:S.ls.isEmpty
    case false=>
     have HF:=hide (dZ S x nm ([]) (.inl (by simpa using hlb)))
     go_wp2_with fail
     go_ret
     exact⟨dR.out.mono (by omega),.inl ⟨HF.out,rfl⟩⟩
    case true=>
    have HF:=hide (show cB S [x,nm]=some ⟨S.ds++[⟨⟨nm.toArray⟩,3,0,0,[],[],[]⟩],S.ls⟩from by
     simp only[cB,hkx]
     exact if_neg (by intro hc;rcases hc with hc | hc;exact hc (by simpa using hlb);exact absurd (show bT ⟨nm.toArray⟩=false from hc) (by rw[hnb];decide)))
    generalize World.alloc w4 _=w6 at*
    clear ya y1 y2 z1 r2 bC ak iC e1 e2
    have q1:w6.cell? ⟨g,1,none⟩=some (.string ⟨nm.toArray⟩):=jG.out _ dR.out 1 nm rfl
    have q0:w6.cell? ⟨D,0,none⟩=some (.string ⟨#[]⟩):=gB.out.get 0 _ rfl
    have q2:w6.frozen? ⟨D,0,none⟩=false:=gB.out.frozen 0
    have q3:w6.cell? ⟨R,2,none⟩=some (.bool false):=by
     have:=(bE.out _ dR.out).2.get 2 _ rfl
     rw[hlb]at this
     exact this
    have dx:=hide (gB.out.set 0 (.string ⟨nm.toArray⟩))
    have bM:=hide (dR.out.setCell (p:=⟨D,0,none⟩) (Nat.le_refl D) (.string ⟨nm.toArray⟩))
    have oG:=size_setCell w6 ⟨D,0,none⟩ (.string ⟨nm.toArray⟩)
    go_wp2_with fail
    have hD7:D+1≤(w6.setCell ⟨D,0,none⟩ (.string ⟨nm.toArray⟩)).heap.size :=by rw[oG];have:=gB.out.lt;omega
    generalize World.setCell w6 _ _=w7 at*
    have fZ:=hide (gQ w7 (R+1) ⟨nm.toArray⟩ 3 0 0)
    have jN:=hide (gM (bA:=none) (bn:=0) (bc:=0) hnl (show -1≤(3:Int)∧(3:Int)≤100 by omega) (show -1≤(0:Int)∧(0:Int)≤100 by omega) (show 0<256 by omega) (bs:=[]) (fun y hy=>(nomatch hy)))
    have aR:=hide (bM.out.drew)
    have aC:=hide (show Bx w7.drew D #[.string ⟨nm.toArray⟩,.int .i64 3,.int .i64 0,.int .u8 0,.slice none 0 0,.slice none 0 0,.slice none 0 0] 37 from dx.out)
    have bV:=hide (show fI w7.drew (R+1) ⟨⟨nm.toArray⟩,3,0,0,none,0,0,[],none,0,0,[],none,0,0,[]⟩from fZ.out)
    have nI:D+1≤w7.drew.heap.size:=hD7
    have hS0:w7.drew.cell? ⟨R,0,none⟩=some V∧w7.drew.cell? ⟨D,0,none⟩=some (.string ⟨nm.toArray⟩)∧w7.drew.cell? ⟨D,1,none⟩=some (.int .i64 3)∧w7.drew.cell? ⟨D,2,none⟩=some (.int .i64 0)∧w7.drew.cell? ⟨D,3,none⟩=some (.int .u8 0)∧w7.drew.cell? ⟨D,4,none⟩=some (.slice none 0 0)∧w7.drew.cell? ⟨D,5,none⟩=some (.slice none 0 0)∧w7.drew.cell? ⟨D,6,none⟩=some (.slice none 0 0):=
     ⟨(bE.out _ aR.out).2.get 0 _ rfl,aC.out.get 0 _ rfl,aC.out.get 1 _ rfl,aC.out.get 2 _ rfl,aC.out.get 3 _ rfl,aC.out.get 4 _ rfl,aC.out.get 5 _ rfl,aC.out.get 6 _ rfl⟩
    refine dz (fun w'=>w'.cell? ⟨R,0,none⟩=some V∧w'.cell? ⟨D,0,none⟩=some (.string ⟨nm.toArray⟩)∧w'.cell? ⟨D,1,none⟩=some (.int .i64 3)∧w'.cell? ⟨D,2,none⟩=some (.int .i64 0)∧w'.cell? ⟨D,3,none⟩=some (.int .u8 0)∧w'.cell? ⟨D,4,none⟩=some (.slice none 0 0)∧w'.cell? ⟨D,5,none⟩=some (.slice none 0 0)∧w'.cell? ⟨D,6,none⟩=some (.slice none 0 0)) 8 (by kernel_rfl) hS0 (fun hS inv=>?_)
    clear hS0 dx bM fZ hD7
    generalize World.drew w7=wd at*
    revert inv
    refine rP 0 hS ?_
    refine rP 1 hS ?_
    refine rP 2 hS ?_
    refine rP 3 hS ?_
    refine rP 4 hS ?_
    refine rL 5 [8] rfl hS (by intro w hSw;obtain⟨s0,s1,s2,s3,s4,s5,s6,s7⟩:=hSw;go_simp;try with_reducible rfl) ?_
    refine rL 6 [7,8] rfl hS (by intro w hSw;obtain⟨s0,s1,s2,s3,s4,s5,s6,s7⟩:=hSw;go_simp;try with_reducible rfl) ?_
    intro inv
    refine rO 7 inv fun K hK=>?_
    rw[if_pos (by rfl)]
    obtain⟨fP,hi0,hz0,hz1,hz2⟩:=info_parts Tryd.infoDevice
    refine wp_buildSlice 22 37 1 #[(0,.tmp 99)] rfl #[.string ⟨nm.toArray⟩,.int .i64 3,.int .i64 0,.int .u8 0,.slice none 0 0,.slice none 0 0,.slice none 0 0] fP _ Tryd.underlying22 hi0 hz0 (by rw[hz1];omega) (by rw[hz1];omega) (by rw[hz1,Array.toList_map];exact fV ⟨nm.toArray⟩ 3 0 0 none none none 0 0 0 0 0 0) ?_
    have aD:=below_alloc2 wd (.cells #[.string ⟨nm.toArray⟩,.int .i64 3,.int .i64 0,.int .u8 0,.slice none 0 0,.slice none 0 0,.slice none 0 0] 37)
    have dh:=hide (Bx.new wd #[.string ⟨nm.toArray⟩,.int .i64 3,.int .i64 0,.int .u8 0,.slice none 0 0,.slice none 0 0,.slice none 0 0] 37)
    have bZ:=hide (aR.out.trans (aD.mono (by omega)))
    have aF:=hide (bE.out _ (aR.out.trans (aD.mono (by omega)))).1
    have aX:=hide (bE.out _ (aR.out.trans (aD.mono (by omega)))).2
    have dw:=hide (show fI _ (R+1) ⟨⟨nm.toArray⟩,3,0,0,none,0,0,[],none,0,0,[],none,0,0,[]⟩from⟨own_below bV.out.1 aD,bV.out.2⟩)
    have fJ:=hide (show(wd.alloc (.cells #[.string ⟨nm.toArray⟩,.int .i64 3,.int .i64 0,.int .u8 0,.slice none 0 0,.slice none 0 0,.slice none 0 0] 37)).heap.size =wd.heap.size+1 from by simp)
    have hSS:(wd.alloc (.cells #[.string ⟨nm.toArray⟩,.int .i64 3,.int .i64 0,.int .u8 0,.slice none 0 0,.slice none 0 0,.slice none 0 0] 37)).cell? ⟨R,0,none⟩=some V:=aX.out.get 0 _ rfl
    have aG:=hide (aC.out.below aD)
    clear aD aR aC bV hS
    generalize World.alloc wd _=aM at*
    have hS:aM.cell? ⟨R,0,none⟩=some V∧aM.cell? ⟨D,0,none⟩=some (.string ⟨nm.toArray⟩)∧aM.cell? ⟨D,1,none⟩=some (.int .i64 3)∧aM.cell? ⟨D,2,none⟩=some (.int .i64 0)∧aM.cell? ⟨D,3,none⟩=some (.int .u8 0)∧aM.cell? ⟨D,4,none⟩=some (.slice none 0 0)∧aM.cell? ⟨D,5,none⟩=some (.slice none 0 0)∧aM.cell? ⟨D,6,none⟩=some (.slice none 0 0):=
     ⟨hSS,aG.out.get 0 _ rfl,aG.out.get 1 _ rfl,aG.out.get 2 _ rfl,aG.out.get 3 _ rfl,aG.out.get 4 _ rfl,aG.out.get 5 _ rfl,aG.out.get 6 _ rfl⟩
    refine hK.out _ _ (fun _=>hS) ?_
    clear hK K hS inv
    intro inv
    try simp only[Act.put,aJ,aK,aL]
    refine rT 8 inv fun K hK=>?_
    rw[if_pos (by rfl)]
    have lg:=fJ.out
    have hdl:=jk.out
    refine bG _ (.tmp 98) (.tmp 100) 22 rfl (R+1) 37 fP _ 7 112 Tryd.underlying22 hi0 hz0 hz1 hz2 rfl (by omega) V ds.length (ds.flatMap ah.cells) rfl aF.out.d (wd.heap.size+1) (some ⟨wd.heap.size,0,none⟩) 1 1 (ah.cells ⟨⟨nm.toArray⟩,3,0,0,none,0,0,[],none,0,0,[],none,0,0,[]⟩) rfl ⟨rfl,fun _=>⟨_,rfl,Nat.lt_succ_self _,fun j' u hu=>by
     rw[addr_add,Nat.zero_add]
     exact dh.out.get j' u (by simpa[ah.cells]using hu)⟩⟩ (ah.one _) (by simp only[maxLen];omega) (by omega) (by omega) ?_
    intro v9 w9 aP aV eF
    obtain⟨g9,c9,rfl,_⟩:=aP.form (by omega)
    have d9:=hide (aF.out.ig (x:=⟨⟨nm.toArray⟩,3,0,0,none,0,0,[],none,0,0,[],none,0,0,[]⟩) jN.out dw.out ⟨rfl,rfl,rfl,rfl⟩ ⟨rfl,rfl,rfl,rfl⟩ aP aV)
    have aT:=hide (aX.out.same (bJ aV (by omega) (fun e=>by have:=(aF.out.d.lt _ e).1;omega)))
    have eH:=hide (show Below R W w9 from(bZ.out.mono (by omega)).grown aV (by omega) (fun j hj=>by have:=(aF.out.d.lt _ hj).1;omega))
    have s0:w9.cell? ⟨R,0,none⟩=some V:=aT.out.get 0 _ rfl
    have f0:w9.frozen? ⟨R,0,none⟩=false:=aT.out.frozen 0
    clear aP aV eF aF aX bZ dw dh hSS
    refine hK.out _ _ ?_
    clear hK K inv
    intro inv
    try simp only[Act.put,aJ,aK,aL]
    refine rT 9 inv fun K hK=>?_
    go_simp
    refine hK.out _ _ ?_
    clear hK K inv
    intro inv
    try simp only[Act.put,aJ,aK,aL]
    refine rT 10 inv fun K hK=>?_
    go_simp
    refine hK.out _ _ ?_
    clear hK K inv
    intro inv
    try simp only[Act.put,aJ,aK,aL]
    refine rT 11 inv fun K hK=>?_
    go_simp
    refine hK.out _ _ ?_
    clear hK K inv
    intro inv
    try simp only[Act.put,aJ,aK,aL]
    refine rT 12 inv fun K hK=>?_
    go_simp
    refine hK.out _ _ ?_
    clear hK K inv
    intro inv
    try simp only[Act.put,aJ,aK,aL]
    refine rD ?_
    clear inv
    clear s0 f0
    have gV:=hide (aT.out.set 0 (.slice (some ⟨g9,0,none⟩) (ds.length+1) c9))
    have jD:=hide (d9.out.same (w':=w9.setCell ⟨R,0,none⟩ (.slice (some ⟨g9,0,none⟩) (ds.length+1) c9)) (fun q h1 h2=>RowKit.Below.heap_setCell _ _ _ _ (show q≠R by omega)))
    have eO:=hide (eH.out.setCell (p:=⟨R,0,none⟩) (Nat.le_refl R) (.slice (some ⟨g9,0,none⟩) (ds.length+1) c9))
    generalize World.setCell w9 _ _=nT at*
    clear aT d9 eH
    go_wp2_with fail
    go_ret
    refine⟨eO.out,.inr ⟨_,HF.out,rfl,_,_,_,?_,jD.out,by rw[List.map_append,oU.out];rfl⟩⟩
    have hb:=gV.out
    exact hb
  case neg=>
   exfalso
   have:=lu (x:=x) (fun j h1 h2=>bP.out j h1 (by omega))
   omega
end Go.Proofs.YtifkacnoiocebaaDoor
