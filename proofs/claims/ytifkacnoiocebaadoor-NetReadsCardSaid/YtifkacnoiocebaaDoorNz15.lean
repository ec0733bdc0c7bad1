/- A part of the proof: Nr7, Nr8, Nr9, Nr10. -/
import Derived.Test.YtifkacnoiocebaaDoorNz14
set_option linter.unusedVariables false
set_option linter.unusedSimpArgs false
set_option maxRecDepth 100000
set_option maxHeartbeats 8000000
namespace Go.Proofs.YtifkacnoiocebaaDoor
open Go.RowKit
theorem rY (S:dJ) (vb p:List UInt8):fT S [vb,p]=if(decide (0≤aF (cO 47 vb).1 100) && decide (0≤aF (cO 47 vb).2 100) && decide (0≤aF p 100))=true then mF S (fun d=>{ d with routes:=d.routes++[⟨aF (cO 47 vb).1 100,aF (cO 47 vb).2 100,aF p 100⟩] })else none:=by
 by_cases h:47∈vb
 ·obtain⟨u,v,rfl,hu⟩:=fU h
  rw[nP 47 u v hu]
  by_cases hv:47∈v
  ·have h1:aF v 100= -1:=wE hv (by decide)
   rw[if_neg (by rw[h1];simp)]
   obtain⟨x,y,rfl,hx⟩:=fU hv
   have h2:=dU 47 y
   cases hc:pieces 47 y with
   |nil=>rw[hc]at h2;simp at h2
   |cons c t=>
    simp only[fT,gP 47 u _ hu,gP 47 x y hx,hc]
  ·simp only[fT,gP 47 u v hu,pieces_eq 47 v hv,Bool.and_eq_true,decide_eq_true_eq,and_assoc]
 ·rw[mX 47 vb h,if_neg (by simp[Bt])]
  simp only[fT,pieces_eq 47 vb h]
theorem o7 (S:dJ) (ws:List (List UInt8)) (h:S.ds=[]∨S.ls≠[]):fT S ws=none:=by
 unfold fT
 split
 ·split
  ·split
   ·exact nN h
   ·rfl
  ·rfl
 ·rfl
theorem rZ (S:dJ) (ws:List (List UInt8)) (h:ws.length≠2):fT S ws=none:=by
 unfold fT
 split
 ·exact absurd rfl h
 ·rfl
theorem yK (R:Nat) (S:dJ) (x:List UInt8) (rest:List (List UInt8)) (base g n cap:Nat) (W:World) (hm:eP W) (hR:iV jV 41 W R S) (hS:cK S 10000) (hw:cB W base g n cap (x::rest)) (hwo:iX (x::rest)) (hgR:R<g):
  Calls Tryd.prog 29 #[.pointer (some ⟨R,0,none⟩),.slice (some ⟨g,0,none⟩) n cap] W (gU jV 41 R (fT S rest) W):=by
 obtain⟨ds,V,L,hbx,aR,hds⟩:=hR
 have hn:=hw.len
 simp only[List.length_cons]at hn
 have hcap:=(dY hw.own)
 have iM:=hwo.len
 simp only[List.length_cons]at iM
 have hRl:=hbx.lt
 have hgl:=hw.lt.2
 have HM:=hide hm
 have aL:Bx W R #[V,L,.bool (!S.ls.isEmpty)] 41:=hbx
 clear hbx
 by_cases hbad:S.ds=[]∨S.ls≠[]
 ·have HF:=hide (o7 S rest hbad)
  have gY:Hid (Calls Tryd.prog 57 #[.pointer (some ⟨R,0,none⟩)] W fun e W'=>e= .returned (.pointer none)∧W=W'):=by
   obtain⟨A,c,rfl,_⟩:=bD.dw ah.len aR.d rfl
   refine hide (uZ R _ A _ c L W aL ?_ (by have:=hS.d;rw[← hds,List.length_map]at this;omega))
   rcases hbad with h | h
   ·left;rw[h]at hds;simpa using hds
   ·right;simpa using h
  clear aR aL hds hS hwo hw hm hbad
  go_enter Tryd.func29,Tryd.ntmps29
  go_wp2_with fail
  refine gY.out.mono ?_
  rintro e w1 ⟨rfl,rfl⟩
  clear gY
  go_wp2_with fail
  go_ret
  exact⟨Below.refl _ _,.inl ⟨HF.out,rfl⟩⟩
 have hls:S.ls=[]:=by
  by_cases h:S.ls=[]
  ·exact h
  ·exact absurd (Or.inr h) hbad
 rcases lZ hds with⟨_,h1,_⟩ | ⟨ds0,x0,rfl,h2,h3,hxm⟩
 ·exact absurd (Or.inl h1) hbad
 have jP:x0∈ds0++[x0]:=List.mem_append_right _ (List.mem_singleton.2 rfl)
 obtain⟨gd,cd,rfl,_⟩:=aR.d.form (by simp)
 have hlen:(ds0++[x0]).length =ds0.length+1:=by simp
 obtain⟨k,hk⟩:∃k,ds0.length=k:=⟨_,rfl⟩
 have Cx:k≤9999:=by have:=hS.d;rw[← hds,List.length_map,hlen,hk]at this;omega
 rw[hls]at aR
 have iq:Bx W R #[.slice (some ⟨gd,0,none⟩) (k+1) cd,L,.bool false] 41:=by
  rw[hlen,hk]at aL
  rw[hls]at aL
  exact aL
 have gY:=hide (u7 R gd k cd L W iq (by omega))
 by_cases Cw:n=3
 case neg=>
  have HF:=hide (rZ S rest (by omega))
  have d3:((n:Int)==3)=false:=by simp;omega
  have d4:((n:Int) != 3)=true:=by simp;omega
  clear aR aL hds hS hwo hw hm hbad h2 h3 hls hxm jP iq
  go_enter Tryd.func29,Tryd.ntmps29
  go_wp2_with fail
  refine gY.out.mono ?_
  rintro e w1 ⟨rfl,hb1⟩
  clear gY
  go_wp2_with fail
  go_ret
  exact⟨hb1.mono (by omega),.inl ⟨HF.out,rfl⟩⟩
 case pos=>
 subst Cw
 obtain⟨vb,rest,rfl⟩:∃a t,rest=a::t:=by
  cases rest with
  |nil=>simp at hn
  |cons a t=>exact⟨a,t,rfl⟩
 obtain⟨p,rfl⟩:∃a,rest=[a]:=by
  cases rest with
  |nil=>simp at hn
  |cons a t=>
   cases t with
   |nil=>exact⟨a,rfl⟩
   |cons c u=>simp only[List.length_cons]at hn;omega
 have hvl:vb.length≤5000:=hwo.each vb (by simp)
 have hpl:p.length≤5000:=hwo.each p (by simp)
 have jD:=hide (rY S vb p)
 have zn:=hide (fun w (h:eP w)=>p9 ⟨vb.toArray⟩ 47 w (by show vb.toArray.size≤_;rw[List.size_toArray];omega) h)
 obtain⟨X,hX⟩:∃X,(cO 47 vb).1=X:=⟨_,rfl⟩
 obtain⟨Y,hY⟩:∃Y,(cO 47 vb).2=Y:=⟨_,rfl⟩
 have HC:=hide (fun w (h:eP w)=>(zn.out w h).mono (fun e w' h=>show e= .returned (.tuple #[.string ⟨X.toArray⟩,.string ⟨Y.toArray⟩,.bool (decide (47∈vb))])∧Below w.heap.size w w' from by rw[← hX,← hY];exact h))
 rw[hX,hY]at jD
 have hA:=gW X 100
 have hA':=dP X 100
 have hB:=gW Y 100
 have hB':=dP Y 100
 have hP:=gW p 100
 have hP':=dP p 100
 have HX:=hide (fun w=>fK X w)
 have HY:=hide (fun w=>fK Y w)
 have HP:=hide (fun w=>fK p w)
 obtain⟨a,ha⟩:∃a,aF X 100=a:=⟨_,rfl⟩
 obtain⟨b,hb⟩:∃a,aF Y 100=a:=⟨_,rfl⟩
 obtain⟨c,hc⟩:∃a,aF p 100=a:=⟨_,rfl⟩
 simp only[ha,hb,hc]at HX HY HP jD hA hA' hB hB' hP hP'
 have hro:(⟨a,b,c⟩:bf).ok :=by
  refine⟨?_,?_,?_⟩
  ·show bG a;unfold bG;omega
  ·show bG b;unfold bG;omega
  ·show bG c;unfold bG;omega
 rw[lC hls h2 h3]at jD
 obtain⟨oa,hoa⟩:∃oa,decide (0≤a)=oa:=⟨_,rfl⟩
 obtain⟨ob,l5⟩:∃oa,decide (0≤b)=oa:=⟨_,rfl⟩
 obtain⟨oc,hoc⟩:∃oa,decide (0≤c)=oa:=⟨_,rfl⟩
 obtain⟨od,hod⟩:∃oa,decide (47∈vb)=oa:=⟨_,rfl⟩
 simp only[hoa,l5,hoc,hod]at HX HY HP jD HC
 obtain⟨r,hr⟩:∃r,fT S [vb,p]=r:=⟨_,rfl⟩
 rw[hr]at jD ⊢
 clear hX hY ha hb hc hoa l5 hoc hod hr zn hA hA' hB hB' hP hP'
 have htn:x0.ts.length≤10000:=hS.t _ hxm
 have htl:=(aR.t x0 jP).2
 have hgd:=aR.d.lt gd rfl
 have hxc:W.cell? ⟨gd,k*7+6,none⟩=some (.slice x0.tA x0.tn x0.tc):=by
  have:=aR.d.cells (g:=gd) rfl (k*7+6) (.slice x0.tA x0.tn x0.tc) (flat_get ah.len _ k x0 6 _ (by rw[← hk,List.getElem?_append_right (Nat.le_refl _),Nat.sub_self];rfl) rfl)
  rwa [addr_add,Nat.zero_add]at this
 have hfz:W.frozen? ⟨gd,k*7+6,none⟩=false:=aR.d.frozenAt _
 have fO:=hide aR
 have fq:=hide iq
 have xw:W.cell? ⟨g,1,none⟩=some (.string ⟨vb.toArray⟩):=hw.get (k:=1) rfl
 have xA:W.cell? ⟨g,2,none⟩=some (.string ⟨p.toArray⟩):=hw.get (k:=2) rfl
 have HQ:=hide (fun(w':World) (hb:Below W.heap.size W w')=>show w'.cell? ⟨gd,k*7+6,none⟩=some (.slice x0.tA x0.tn x0.tc)∧w'.cell? ⟨g,1,none⟩=some (.string ⟨vb.toArray⟩)∧w'.cell? ⟨g,2,none⟩=some (.string ⟨p.toArray⟩)from
  ⟨(hb.cell (p:=⟨gd,k*7+6,none⟩) hgd.2).trans hxc,(hb.cell (p:=⟨g,1,none⟩) hgl).trans xw,(hb.cell (p:=⟨g,2,none⟩) hgl).trans xA⟩)
 clear aR aL iq hds hS hwo hw hm hbad hxc xw xA hfz h2 h3 hls hxm
 obtain⟨i0,hi0,hz0,hz1,hz2⟩:=info_parts Tryd.infoRoute
 go_enter Tryd.func29,Tryd.ntmps29
 go_wp2_with fail
 refine gY.out.mono ?_
 rintro e w1 ⟨rfl,hb1⟩
 have nW:=hide (HM.out.below hb1)
 obtain⟨p0,p1,p2⟩:=HQ.out w1 hb1
 clear gY HM
 go_wp2_with fail
 refine(HC.out _ nW.out).mono ?_
 rintro e w2 ⟨rfl,hb2⟩
 have HB2:=hide (hb1.trans (hb2.mono hb1.size))
 clear hb1 hb2 nW HC p0 p1 p2
 obtain⟨p0,p1,p2⟩:=HQ.out w2 HB2.out
 have hW2:=HB2.out.size
 go_wp2_with fail
 refine(HX.out _).mono ?_
 rintro e w3 ⟨rfl,rfl⟩
 clear HX
 go_wp2_with fail
 refine(HY.out _).mono ?_
 rintro e w3 ⟨rfl,rfl⟩
 clear HY
 go_wp2_with fail
 refine(HP.out _).mono ?_
 rintro e w3 ⟨rfl,rfl⟩
 clear HP
 have kF:=hide (show Reads (w2.alloc (.cells #[.int .i64 a,.int .i64 b,.int .i64 c] 66)) (w2.heap.size+1) 3 (some ⟨w2.heap.size,0,none⟩) 1 (bf.cells ⟨a,b,c⟩)from
  ⟨rfl,fun _=>⟨_,rfl,Nat.lt_succ_self _,fun j u hu=>by
   rw[addr_add,Nat.zero_add,cell_of_row _ _ _ _ _ _ (heap_alloc_new w2 _)]
   simpa[bf.cells]using hu⟩⟩)
 have aK:=hide (HB2.out.alloc HB2.out.size (.cells #[.int .i64 a,.int .i64 b,.int .i64 c] 66))
 have nE:=hide (fO.out.below aK.out)
 have Ie:R+1≤w2.heap.size:=by omega
 have HT:=hide (nE.out.t x0 jP)
 have h10:x0.tn+1≤10001:=by omega
 go_wp2_with (at_builtin;refine dS _ rfl (.tmp 53) (.tmp 58) 35 rfl (R+1) 66 i0 _ 3 24 Tryd.underlying35 hi0 hz0 hz1 hz2 rfl (by omega) (.slice x0.tA x0.tn x0.tc) x0.tn (x0.ts.flatMap bf.cells) rfl HT.out.1 (w2.heap.size+1) (some ⟨w2.heap.size,0,none⟩) 1 1 (bf.cells ⟨a,b,c⟩) rfl kF.out (bf.one _) (by simp only[maxLen];omega) (by omega) (by simp;omega) ?_;intro v9 w9 aH aN bX;obtain⟨g9,c9,rfl,_⟩:=aH.form (by omega);have lJ:(Value.slice x0.tA x0.tn x0.tc).ownBlock ≠some gd:=jd nE.out.d HT.out.1 (by decide) rfl;have dh:=hide (nE.out.uY hro aH aN bX);have aT:=hide (show Bx w9 R #[.slice (some ⟨gd,0,none⟩) (k+1) cd,L,.bool false] 41 from(fq.out.below aK.out).same (aY aN (by simp;omega) (fun e=>by have:=(HT.out.1.lt _ e).1;omega)));have bS:=hide (show Below R W w9 from(aK.out.mono (by omega)).grown aN (by simp;omega) (fun q hq=>by have:=(HT.out.1.lt _ hq).1;omega));have s0:w9.cell? ⟨gd,k*7+6,none⟩=some (.slice x0.tA x0.tn x0.tc):=(World.cell?_of_block (a:=⟨gd,k*7+6,none⟩) (aY aN (by show gd<_;simp;omega) lJ)).trans (HQ.out _ aK.out).1;have f0:w9.frozen? ⟨gd,k*7+6,none⟩=false:=(bV nE.out.d HT.out.1 (by decide) aN).frozenAt _;clear aH aN bX)
 all_goals
  have aQ:=hide (bS.out.setCell (p:=⟨gd,k*7+6,none⟩) (by show R≤gd;omega) (.slice (some ⟨g9,0,none⟩) (x0.tn+1) c9))
  rw[hk]at dh
  clear HQ nE aK HT s0 f0
  go_ret
 ·rename_i h1 h2
  subst h1 h2
  cases oc with
  |true=>
   refine⟨aQ.out,.inr ⟨_,by rw[jD.out];rfl,rfl,_,_,_,?_,dh.out,by simp[ah.dev]⟩⟩
   rw[hlen,hk]
   exact(aT.out.far _ _ (by show R≠gd;omega))
  |false=>exact⟨aQ.out,.inl ⟨by rw[jD.out];rfl,rfl⟩⟩
 ·rename_i h1 h2
  subst h1
  have h2:ob=false:=by simpa using h2
  subst h2
  exact⟨aQ.out,.inl ⟨by rw[jD.out];rfl,rfl⟩⟩
 ·rename_i h1
  have h1:oa=false:=by simpa using h1
  subst h1
  exact⟨aQ.out,.inl ⟨by rw[jD.out];rfl,rfl⟩⟩
theorem yL (x:ah) (nm:ByteArray) (k:Nat) (w:World) (hk:k<w.heap.size) (h0:w.cell? ⟨k,0,none⟩=some (.string nm)):
  Calls Tryd.prog 63 (#[x.val]++#[.pointer (some ⟨k,0,none⟩)]) w fun e W'=>e= .returned (.bool (bO x.name nm))∧Below w.heap.size w W':=by
 have hne:k≠w.heap.size:=by omega
 obtain⟨xn,xk,xa,xp,bA,bn,bc,bs,rA,rn,rc,rs,tA,tn,tc,ts⟩:=x
 show Calls Tryd.prog 63 #[.agg #[.string xn,.int .i64 xk,.int .i64 xa,.int .u8 xp,.slice bA bn bc,.slice rA rn rc,.slice tA tn tc],.pointer (some ⟨k,0,none⟩)] w _
 have HB:=hide (fun o=>show Below w.heap.size w (w.alloc o)from(Below.refl _ _).alloc (Nat.le_refl _) _)
 by_cases e:xn.toList=nm.toList
 all_goals
  go_enter Tryd.func63,Tryd.ntmps63
  go_wp2
  go_ret
  exact⟨iE (by simp[bO,e]),HB.out _⟩
theorem vQ (ds:List ah) (A:Option Addr) (n c C R:Nat) (nm:ByteArray) (w:World) (hn:n≤100000) (hl:bD ah.cells 7 w w.heap.size A n ds) (hC:w.cell? ⟨C,0,none⟩=some (.pointer (some ⟨R,0,none⟩))) (hR:w.cell? ⟨R,0,none⟩=some (.slice A n c)) (Ig:C<w.heap.size) (hRl:R<w.heap.size):
  Calls Tryd.prog 61 (#[.string nm]++#[.pointer (some ⟨C,0,none⟩)]) w fun e W'=>e= .returned (.int .i64 (ig (fun x:ah=>bO x.name nm) ds))∧Below w.heap.size w W':=by
 have hne:C≠w.heap.size:=by omega
 have hne2:R≠w.heap.size:=by omega
 have HB:=hide (show Below w.heap.size w (w.alloc (.cells #[.string nm] 9))from(Below.refl _ _).alloc (Nat.le_refl _) _)
 have HX:=hide (Bx.new w #[.string nm] 9)
 have jJ:=hide (nY ds A n c 63 #[.pointer (some ⟨w.heap.size,0,none⟩)] (fun x=>bO x.name nm) (w.alloc (.cells #[.string nm] 9)) (by omega) (hl.below HB.out HB.out.size) (fun args w=>by go_simp) (hide (fun r w' hr hw=>yL r nm w.heap.size w' (by have:=hw.size;simp at this;omega) ((HX.out.below hw).get 0 _ rfl))))
 clear hl
 show Calls Tryd.prog 61 #[.string nm,.pointer (some ⟨C,0,none⟩)] w _
 go_enter Tryd.func61,Tryd.ntmps61
 go_wp2_with fail
 refine jJ.out.mono ?_
 rintro e w2 ⟨rfl,hb⟩
 go_wp2_with fail
 go_ret
 exact⟨rfl,HB.out.trans (hb.mono HB.out.size)⟩
theorem sG (ds:List ah) (nm:List UInt8):jh (ds.map ah.dev) nm=ig (fun x:ah=>bO x.name ⟨nm.toArray⟩) ds:=by
 unfold jh ig
 rw[List.findIdx?_map]
 rfl
theorem zo (ds:List Dev) (nm:List UInt8): -1≤jh ds nm∧jh ds nm<ds.length∨jh ds nm= -1:=by
 unfold jh
 rcases l6 (fun d:Dev=>bO d.name (kJ nm)) ds with⟨k,r,hk,hl,_⟩ | ⟨hk,_⟩
 ·left;rw[hk];omega
 ·right;exact hk
theorem tX (S:dJ) (ws:List (List UInt8)) (h:ws.length≠4):j4 S ws=none:=by
 unfold j4
 split
 ·exact absurd rfl h
 ·rfl
theorem zJ (R:Nat) (S:dJ) (x:List UInt8) (rest:List (List UInt8)) (base g n cap:Nat) (W:World) (hm:eP W) (hR:iV jV 41 W R S) (hS:cK S 10000) (hw:cB W base g n cap (x::rest)) (hwo:iX (x::rest)) (hgR:R<g):
  Calls Tryd.prog 30 #[.pointer (some ⟨R,0,none⟩),.slice (some ⟨g,0,none⟩) n cap] W (gU jV 41 R (j4 S rest) W):=by
 obtain⟨ds,V,L,hbx,aR,hds⟩:=hR
 have hn:=hw.len
 simp only[List.length_cons]at hn
 have hcap:=(dY hw.own)
 have iM:=hwo.len
 simp only[List.length_cons]at iM
 have hRl:=hbx.lt
 have hgl:=hw.lt.2
 have aL:Bx W R #[V,L,.bool (!S.ls.isEmpty)] 41:=hbx
 have hb0:=(Below.refl W.heap.size W).alloc (Nat.le_refl _) (.cells #[.pointer (some ⟨R,0,none⟩)] 39)
 clear hbx
 by_cases FZ:n=5
 case neg=>
  have HF:=hide (tX S rest (by omega))
  have d3:((n:Int)==5)=false:=by simp;omega
  have d4:((n:Int) != 5)=true:=by simp;omega
  clear aR aL hds hS hwo hw hm
  go_enter Tryd.func30,Tryd.ntmps30
  go_wp2_with fail
  go_ret
  exact⟨hb0.mono (by omega),.inl ⟨HF.out,rfl⟩⟩
 case pos=>
 subst FZ
 obtain⟨na,rest,rfl⟩:∃a t,rest=a::t:=by
  cases rest with
  |nil=>simp at hn
  |cons a t=>exact⟨a,t,rfl⟩
 obtain⟨np,rest,rfl⟩:∃a t,rest=a::t:=by
  cases rest with
  |nil=>simp at hn
  |cons a t=>exact⟨a,t,rfl⟩
 obtain⟨nb,rest,rfl⟩:∃a t,rest=a::t:=by
  cases rest with
  |nil=>simp at hn
  |cons a t=>exact⟨a,t,rfl⟩
 obtain⟨nq,rest,rfl⟩:∃a t,rest=a::t:=by
  cases rest with
  |nil=>simp at hn
  |cons a t=>exact⟨a,t,rfl⟩
 obtain rfl:rest=[]:=by
  cases rest with
  |nil=>rfl
  |cons a t=>simp only[List.length_cons]at hn;omega
 obtain⟨A,dc,rfl,_,hsl,_⟩:=bD.dw ah.len aR.d rfl
 obtain⟨LA,lc,rfl,_⟩:=bD.dw aJ.len aR.l rfl
 obtain⟨nd,hnd⟩:∃nd,ds.length=nd:=⟨_,rfl⟩
 obtain⟨nl,hnl⟩:∃nl,S.ls.length=nl:=⟨_,rfl⟩
 have sH:nd≤10000:=by have:=hS.d;rw[← hds,List.length_map,hnd]at this;exact this
 have GD:nl≤10000:=by have:=hS.l;rw[hnl]at this;exact this
 have jD:=hide (show j4 S [na,np,nb,nq]=if 0≤jh S.ds na∧0≤jh S.ds nb∧0≤aF np 100∧0≤aF nq 100 then some ⟨S.ds,S.ls++[⟨jh S.ds na,aF np 100,jh S.ds nb,aF nq 100⟩]⟩else none from rfl)
 have Ev:=zo S.ds na
 have hwb:=zo S.ds nb
 have hSd:S.ds.length≤10000:=hS.d
 have hP:=gW np 100
 have hP':=dP np 100
 have hQ:=gW nq 100
 have hQ':=dP nq 100
 have HP:=hide (fun w=>fK np w)
 have tY:=hide (fun w=>fK nq w)
 obtain⟨W0,hW0⟩:∃W0,W0=W.alloc (.cells #[.pointer (some ⟨R,0,none⟩)] 39):=⟨_,rfl⟩
 obtain⟨C,hC⟩:∃C,W.heap.size=C:=⟨_,rfl⟩
 have zn:=hide (show Bx W0 C #[.pointer (some ⟨R,0,none⟩)] 39 from by rw[hW0,← hC];exact Bx.new W _ _)
 have HB0:=hide (show Below W.heap.size W W0 from by rw[hW0];exact hb0)
 have hsz0:W0.heap.size=C+1:=by rw[hW0,← hC];simp
 have fq:=hide aL
 have fO:=hide aR
 have HW:=hide hw
 rw[hnd]at hsl
 have HSL:=hide hsl
 have HQ:=hide (fun(w':World) (hb:Below W0.heap.size W0 w')=>show w'.cell? ⟨C,0,none⟩=some (.pointer (some ⟨R,0,none⟩))∧w'.cell? ⟨R,0,none⟩=some (.slice A nd dc)∧w'.cell? ⟨R,1,none⟩=some (.slice LA nl lc)∧
   w'.cell? ⟨g,1,none⟩=some (.string ⟨na.toArray⟩)∧w'.cell? ⟨g,2,none⟩=some (.string ⟨np.toArray⟩)∧w'.cell? ⟨g,3,none⟩=some (.string ⟨nb.toArray⟩)∧w'.cell? ⟨g,4,none⟩=some (.string ⟨nq.toArray⟩)from by
  have hW:=HB0.out.trans (hb.mono HB0.out.size)
  have hb1:=fq.out.below hW
  have hw1:=HW.out.below hW
  refine⟨(zn.out.below hb).get 0 _ rfl,?_,?_,hw1.get (k:=1) rfl,hw1.get (k:=2) rfl,hw1.get (k:=3) rfl,hw1.get (k:=4) rfl⟩
  ·rw[← hnd];exact hb1.get 0 _ rfl
  ·rw[← hnl];exact hb1.get 1 _ rfl)
 have Dy:=hide (fun(nm:List UInt8) (w':World) (hb:Below W0.heap.size W0 w')=>show Calls Tryd.prog 61 #[.string ⟨nm.toArray⟩,.pointer (some ⟨C,0,none⟩)] w' (fun e W'=>e= .returned (.int .i64 (jh S.ds nm))∧Below w'.heap.size w' W')from by
  rw[← hds,sG]
  have h1:=HB0.out.trans (hb.mono HB0.out.size)
  have:=hb.size
  exact vQ ds A nd dc C R ⟨nm.toArray⟩ w' (by omega) (HSL.out.below h1 h1.size) (HQ.out w' hb).1 (HQ.out w' hb).2.1 (by omega) (by omega))
 have Dz:=hide (Dy.out na)
 have kG:=hide (Dy.out nb)
 obtain⟨a,ha⟩:∃a,jh S.ds na=a:=⟨_,rfl⟩
 obtain⟨b,hb⟩:∃a,jh S.ds nb=a:=⟨_,rfl⟩
 obtain⟨p,hp⟩:∃a,aF np 100=a:=⟨_,rfl⟩
 obtain⟨q,hq⟩:∃a,aF nq 100=a:=⟨_,rfl⟩
 simp only[ha,hb,hp,hq]at HP tY jD Ev hwb hP hP' hQ hQ' Dz kG
 have hok:(⟨a,p,b,q⟩:aJ).ok :=by
  refine⟨?_,?_,?_,?_⟩
  ·show bG a;unfold bG;omega
  ·show bG p;unfold bG;omega
  ·show bG b;unfold bG;omega
  ·show bG q;unfold bG;omega
 obtain⟨oa,hoa⟩:∃oa,decide (0≤a)=oa:=⟨_,rfl⟩
 obtain⟨ob,l5⟩:∃oa,decide (0≤b)=oa:=⟨_,rfl⟩
 obtain⟨op,hop⟩:∃oa,decide (0≤p)=oa:=⟨_,rfl⟩
 obtain⟨oq,hoq⟩:∃oa,decide (0≤q)=oa:=⟨_,rfl⟩
 obtain⟨r,hr⟩:∃r,j4 S [na,np,nb,nq]=r:=⟨_,rfl⟩
 rw[hr]at jD ⊢
 have HF:=hide (show r=if(op && oq && oa && ob)=true then some ⟨S.ds,S.ls++[⟨a,p,b,q⟩]⟩else none from by
  rw[jD.out,← hoa,← l5,← hop,← hoq]
  by_cases h:0≤a∧0≤b∧0≤p∧0≤q
  ·rw[if_pos h,if_pos (by simp;exact⟨⟨⟨h.2.2.1,h.2.2.2⟩,h.1⟩,h.2.1⟩)]
  ·rw[if_neg h,if_neg (by simp;omega)])
 simp only[hop,hoq]at HP tY
 have F3:=hide (And.intro hoa l5)
 have jB:=hide (show R<C∧g<C from by omega)
 have jE:=hide hds
 have tN:=hide (fun(j:Nat) (hj:(Value.slice LA S.ls.length lc).ownBlock =some j)=>(aR.l.lt j hj).2)
 clear aR aL hds hS hwo hw hm hsl jD ha hb hp hq hr Ev hwb hP hP' hQ hQ' hop hoq Dy hSd hnd hoa l5
 obtain⟨i0,hi0,hz0,hz1,hz2⟩:=info_parts Tryd.infoLink
 go_enter Tryd.func30,Tryd.ntmps30
 go_wp2_with fail
 rw[← hW0]
 refine bB (by kernel_rfl) (by kernel_rfl) ?_
 intro T hT gt hg1 hgi
 have aM:=hide hg1
 have dz:=hide hgi
 have k1:∀t,(gt t).cell? ⟨g,1,none⟩=some (.string ⟨na.toArray⟩):=fun t=>(HQ.out _ (hg1 t)).2.2.2.1
 have k3:∀t,(gt t).cell? ⟨g,3,none⟩=some (.string ⟨nb.toArray⟩):=fun t=>(HQ.out _ (hg1 t)).2.2.2.2.2.1
 have Ew:=hide (fun t=>Dz.out (gt t) (hg1 t))
 have Ey:=hide (fun t=>kG.out (gt t) (hg1 t))
 clear hg1 hgi
 repeat (go_big_quiet_step ((first | (go_at_call_of 61 (Value.string ⟨na.toArray⟩);exact jl aM.out dz.out (Ew.out _)) | (go_at_call_of 61 (Value.string ⟨nb.toArray⟩);exact jl aM.out dz.out (Ey.out _)))))
 refine wpQuiet_nil ?_
 intro _ hw'
 obtain⟨t,rfl⟩:=hw'
 have aK:=hide (aM.out t)
 generalize gt t=w4 at*
 clear aM dz k1 k3 Ew Ey Dz kG
 have zK:=hide (fq.out.below (HB0.out.trans (aK.out.mono HB0.out.size)))
 obtain⟨c0,r0,r1,g1,g2,g3,g4⟩:=HQ.out _ aK.out
 have r2:w4.cell? ⟨R,2,none⟩=some (.bool (!S.ls.isEmpty)):=zK.out.get 2 _ rfl
 have f2:w4.frozen? ⟨R,2,none⟩=false:=zK.out.frozen 2
 go_wp2_with fail
 refine(HP.out _).mono ?_
 rintro e w5 ⟨rfl,rfl⟩
 clear HP
 go_wp2_with fail
 refine(tY.out _).mono ?_
 rintro e w5 ⟨rfl,rfl⟩
 clear tY
 go_wp2_with fail
 have qL:=hide (zK.out.set 2 (.bool true))
 have bK:=hide (show Below R W (w4.setCell ⟨R,2,none⟩ (.bool true))from((HB0.out.trans (aK.out.mono HB0.out.size)).mono (by omega)).setCell (p:=⟨R,2,none⟩) (Nat.le_refl R) _)
 have Ez:=hide ((fO.out.below (HB0.out.trans (aK.out.mono HB0.out.size))).same (w':=w4.setCell ⟨R,2,none⟩ (.bool true)) (fun q h1 h2=>RowKit.Below.heap_setCell _ _ _ _ (show q≠R by omega)))
 have EC:=hide ((zn.out.below aK.out).far ⟨R,2,none⟩ (.bool true) (show C≠R by omega))
 have Ih:C+1≤w4.heap.size:=by have:=aK.out.size;omega
 have hsz5:=size_setCell w4 ⟨R,2,none⟩ (.bool true)
 clear aK zK HW HSL HQ c0 r0 r1 r2 f2 g1 g2 g3 g4 zn fO fq hb0 HB0
 generalize World.setCell w4 _ _=w5 at*
 have DC:=hide (bK.out.drew)
 have zL:=hide (show Bx w5.drew R _ 41 from qL.out)
 have DF:=hide (Ez.out.below (Below.refl w5.heap.size w5).drew)
 have BG:=hide (show Bx w5.drew C _ 39 from EC.out)
 have Cy:w5.drew.heap.size=w4.heap.size:=hsz5
 clear bK qL Ez EC
 have hS0:w5.drew.cell? ⟨C,0,none⟩=some (.pointer (some ⟨R,0,none⟩))∧w5.drew.cell? ⟨R,1,none⟩=some (.slice LA S.ls.length lc):=⟨BG.out.get 0 _ rfl,zL.out.get 1 _ rfl⟩
 refine bF (fun w'=>w'.cell? ⟨C,0,none⟩=some (.pointer (some ⟨R,0,none⟩))∧w'.cell? ⟨R,1,none⟩=some (.slice LA S.ls.length lc)) 16 (by kernel_rfl) hS0 (fun hS inv=>?_)
 clear hS0 hsz5
 generalize World.drew w5=wd at*
 revert inv
 refine rL 0 [16] rfl hS (by intro w hSw;obtain⟨s0,s1⟩:=hSw;go_simp;try with_reducible rfl) ?_
 refine rL 1 [16] rfl hS (by intro w hSw;obtain⟨s0,s1⟩:=hSw;go_simp;try with_reducible rfl) ?_
 refine rP 2 hS ?_
 refine rP 3 hS ?_
 refine rP 4 hS ?_
 refine rL 5 [16] rfl hS (by intro w hSw;obtain⟨s0,s1⟩:=hSw;go_simp;try with_reducible rfl) ?_
 refine rP 6 hS ?_
 refine rP 7 hS ?_
 refine rP 8 hS ?_
 refine rP 9 hS ?_
 refine rP 10 hS ?_
 intro inv
 refine rO 11 inv fun K hK=>?_
 go_simp
 have ak:=below_alloc2 wd (.cells #[.int .i64 a,.int .i64 p,.int .i64 b,.int .i64 q] 55)
 have aO:=hide (Bx.new wd #[.int .i64 a,.int .i64 p,.int .i64 b,.int .i64 q] 55)
 have bq:=hide (zL.out.below ak)
 have BH:=hide (BG.out.below ak)
 have au:=hide (DF.out.below ak)
 have aS:=hide (DC.out.trans (ak.mono (by omega)))
 have iD:(wd.alloc (.cells #[.int .i64 a,.int .i64 p,.int .i64 b,.int .i64 q] 55)).heap.size =w4.heap.size+1:=by simp;omega
 rw[Cy]at aO
 clear ak zL BG DF DC hS
 generalize World.alloc wd _=aA at*
 have hS:aA.cell? ⟨C,0,none⟩=some (.pointer (some ⟨R,0,none⟩))∧aA.cell? ⟨R,1,none⟩=some (.slice LA S.ls.length lc):=⟨BH.out.get 0 _ rfl,bq.out.get 1 _ rfl⟩
 refine hK.out _ _ (fun _=>hS) ?_
 clear hK K hS inv
 intro inv
 try simp only[Act.put,aB,aC,aD]
 refine rO 12 inv fun K hK=>?_
 rw[if_pos (by rfl)]
 refine aZ _ (.tmp 48) (.tmp 54) 23 rfl (R+1) 55 i0 _ 4 32 Tryd.underlying23 hi0 hz0 hz1 hz2 rfl (by omega) (.slice LA S.ls.length lc) S.ls.length (S.ls.flatMap aJ.cells) (by rw[hnl];rfl) au.out.l (w4.heap.size+1) (some ⟨w4.heap.size,0,none⟩) 1 1 (aJ.cells ⟨a,p,b,q⟩) (by simp[Act.eval,Act.put,Cy]) ⟨rfl,fun _=>⟨_,rfl,Nat.lt_succ_self _,fun j' u hu=>by
  rw[addr_add,Nat.zero_add]
  exact aO.out.get j' u (by simpa[aJ.cells]using hu)⟩⟩ (by intro u hu;simp[aJ.cells]at hu;rcases hu with rfl | rfl | rfl | rfl<;>rfl) (by simp only[maxLen];omega) (by omega) (by omega) ?_
 intro v9 w9 aH aN bX
 obtain⟨g9,c9,rfl,_⟩:=aH.form (by omega)
 have DI:∀j,(Value.slice LA S.ls.length lc).ownBlock =some j→R+1≤j∧j<aA.heap.size:=fun j hj=>au.out.l.lt j hj
 have dh:=hide (au.out.wT hok aH aN)
 have aT:=hide (bq.out.same (aY aN (by omega) (fun e=>by have:=(DI _ e).1;omega)))
 have bS:=hide (show Below R W w9 from aS.out.grown aN (by omega) (fun j hj=>by have:=(DI _ hj).1;omega))
 have F4:=hide (BH.out.same (aY aN (by omega) (fun e=>by have:=tN.out _ e;omega)))
 clear aH aN bX au bq BH aS DI
 have hS:w9.cell? ⟨C,0,none⟩=some (.pointer (some ⟨R,0,none⟩))∧w9.cell? ⟨R,1,none⟩=some (.slice LA S.ls.length lc):=⟨F4.out.get 0 _ rfl,aT.out.get 1 _ rfl⟩
 refine hK.out _ _ (fun _=>hS) ?_
 clear hK K inv
 intro inv
 try simp only[Act.put,aB,aC,aD]
 revert inv
 refine rP 13 hS ?_
 refine rP 14 hS ?_
 refine rP 15 hS ?_
 intro inv
 have s1:w9.cell? ⟨R,1,none⟩=some (.slice LA nl lc):=by rw[← hnl];exact hS.2
 have f1:w9.frozen? ⟨R,1,none⟩=false:=aT.out.frozen 1
 refine rT 16 inv fun K hK=>?_
 go_simp
 refine hK.out _ _ ?_
 clear hK K inv
 intro inv
 try simp only[Act.put,aB,aC,aD]
 refine rD ?_
 clear inv
 clear s1 f1 hS
 have fD:=hide (aT.out.set 1 (.slice (some ⟨g9,0,none⟩) (nl+1) c9))
 have iN:=hide (dh.out.same (w':=w9.setCell ⟨R,1,none⟩ (.slice (some ⟨g9,0,none⟩) (nl+1) c9)) (fun q h1 h2=>RowKit.Below.heap_setCell _ _ _ _ (show q≠R by omega)))
 have aQ:=hide (bS.out.setCell (p:=⟨R,1,none⟩) (Nat.le_refl R) (.slice (some ⟨g9,0,none⟩) (nl+1) c9))
 generalize World.setCell w9 _ _=fH at*
 obtain⟨hoa,l5⟩:=F3.out
 go_wp2_with fail
 all_goals
  clear hoa l5
  go_ret
 ·rename_i h1 h2 h3
  subst h1 h2 h3
  cases ob with
  |true=>
   refine⟨aQ.out,.inr ⟨⟨S.ds,S.ls++[⟨a,p,b,q⟩]⟩,by rw[HF.out];rfl,rfl,ds,_,_,?_,iN.out,jE.out⟩⟩
   have h:jV (.slice A ds.length dc) (.slice (some ⟨g9,0,none⟩) (S.ls.length+1) c9) (S.ls++[⟨a,p,b,q⟩])=#[.slice A ds.length dc,.slice (some ⟨g9,0,none⟩) (nl+1) c9,.bool true]:=by
    simp[jV,hnl]
   rw[h]
   exact fD.out
  |false=>exact⟨aQ.out,.inl ⟨by rw[HF.out];rfl,rfl⟩⟩
 all_goals
  refine⟨aQ.out,.inl ⟨?_,rfl⟩⟩
  rw[HF.out,if_neg]
  simp_all
def qM (D:Nat) (w:World):Nat:=6 - (intOf ((w.cell? ⟨D,1,none⟩).getD undef)).toNat
theorem jy {w:World} {D k:Nat} {a b c d e f:Value} (h:Bx w D #[a,.int .i64 (k:Int),b,c,d,e,f] 37):qM D w=6 - k:=by
 unfold qM
 rw[h.get 1 (.int .i64 (k:Int)) rfl]
 simp[intOf]
def jm (k:Nat):Nat:=if k=1 then 3 else if k=2∨k=3 then 2 else 4
theorem kS {x:List UInt8} {k:Nat} (h1:1≤k) (h5:k≤5) (hx:bY (k:Int)=x) (hno:∀j:Nat,1≤j→j<k→bY (j:Int)≠x):eX x=k:=by
 subst hx
 rcases(by omega:k=1∨k=2∨k=3∨k=4∨k=5)with rfl | rfl | rfl | rfl | rfl<;>decide
theorem mG {x:List UInt8} (hno:∀j:Nat,1≤j→j<6→bY (j:Int)≠x):eX x=0:=by
 have h1:=hno 1 (by omega) (by omega)
 have h2:=hno 2 (by omega) (by omega)
 have h3:=hno 3 (by omega) (by omega)
 have h4:=hno 4 (by omega) (by omega)
 have h5:=hno 5 (by omega) (by omega)
 unfold eX
 rw[if_neg (fun e=>h1 e.symm),if_neg (fun e=>h2 e.symm),if_neg (fun e=>h3 e.symm),if_neg (fun e=>h4 e.symm),if_neg (fun e=>h5 e.symm)]
theorem BI (R:Nat) (S:dJ) (x:List UInt8) (rest:List (List UInt8)) (base g n cap:Nat) (W:World) (hm:eP W) (hR:iV jV 41 W R S) (hS:cK S 10000) (hw:cB W base g n cap (x::rest)) (hwo:iX (x::rest)) (hgR:R<g) (hbad:eX x=0):
  Calls Tryd.prog 31 #[.pointer (some ⟨R,0,none⟩),.slice (some ⟨g,0,none⟩) n cap] W (gU jV 41 R (bP S (x::rest)) W):=by
 have hn:=hw.len
 simp only[List.length_cons]at hn
 have hgl:=hw.lt.2
 have hRl:=hR.lt
 have iO:=hide (Bx.new W #[.string ⟨#[]⟩,.int .i64 1,.int .i64 0,.int .u8 0,.slice none 0 0,.slice none 0 0,.slice none 0 0] 37)
 have HB0:=hide (below_alloc2 W (.cells #[.string ⟨#[]⟩,.int .i64 1,.int .i64 0,.int .u8 0,.slice none 0 0,.slice none 0 0,.slice none 0 0] 37))
 have kK:=hide (show(W.alloc (.cells #[.string ⟨#[]⟩,.int .i64 1,.int .i64 0,.int .u8 0,.slice none 0 0,.slice none 0 0,.slice none 0 0] 37)).heap.size =W.heap.size+1 from by simp)
 obtain⟨D,hD⟩:∃D,W.heap.size=D:=⟨_,rfl⟩
 rw[hD]at iO HB0 kK
 have HW:=hide hw
 have qN:=hide (fun(w':World) (hb:Below D W w')=>show w'.cell? ⟨g,0,none⟩=some (.string ⟨x.toArray⟩)from(hb.cell (p:=⟨g,0,none⟩) (by show g<D;omega)).trans (hw.get (k:=0) rfl))
 clear hw
 go_enter Tryd.func31,Tryd.ntmps31
 go_wp2_with fail
 generalize World.alloc W _=W1 at*
 have oP:W1.heap.size=D+1:=kK.out
 go_loopw [] (fun wr=>∃k:Nat,1≤k∧k≤6∧Hid (∀j:Nat,1≤j→j<k→bY (j:Int)≠x)∧Hid (Bx wr D #[.string ⟨#[]⟩,.int .i64 (k:Int),.int .i64 0,.int .u8 0,.slice none 0 0,.slice none 0 0,.slice none 0 0] 37)∧Hid (Below D W wr)∧D+1≤wr.heap.size) (fun wr=>qM D wr)
 case atStart=>exact⟨1,by omega,by omega,hide (fun j h1 h2=>by omega),iO,HB0,by omega⟩
 case round=>
  obtain⟨k,hk1,r9,bC,HX,HB,hsz⟩:=hrel
  have mH:=hide (jy HX.out)
  have hg0:=qN.out wr HB.out
  have x1:wr.cell? ⟨D,1,none⟩=some (.int .i64 (k:Int)):=HX.out.get 1 _ rfl
  by_cases hk5:k≤5
  case pos=>
   have d5:decide ((k:Int)≤5)=true:=decide_eq_true (by omega)
   have jW:=hide (fun w=>kT (k:Int) w (by omega))
   have hn0:(0:Int)<(n:Int):=by omega
   have hn1:0<n:=by omega
   by_cases hxk:bY (k:Int)=x
   case neg=>
    have e1:(bY (k:Int)==x)=false:=by simpa using hxk
    have e2:(bY (k:Int) != x)=true:=by simpa using hxk
    go_wp2_with fail
    refine bB (by kernel_rfl) (by kernel_rfl) ?_
    intro T hT gt hg1 hgi
    have aM:=hide hg1
    have dz:=hide hgi
    have k0:∀t,(gt t).cell? ⟨g,0,none⟩=some (.string ⟨x.toArray⟩):=fun t=>((hg1 t).cell (p:=⟨g,0,none⟩) (by show g<_;omega)).trans hg0
    have k1:∀t,(gt t).cell? ⟨D,1,none⟩=some (.int .i64 (k:Int)):=fun t=>((hg1 t).cell (p:=⟨D,1,none⟩) (by show D<_;omega)).trans x1
    clear hg1 hgi
    repeat (go_big_quiet_step ((go_at_call 51;exact bR (jW.out _))))
    refine wpQuiet_nil ?_
    intro _ hw'
    obtain⟨t,rfl⟩:=hw'
    have bJ:=hide (HX.out.below (aM.out t))
    have aK:=hide (HB.out.trans ((aM.out t).mono (by omega)))
    have kL:D+1≤(gt t).heap.size :=by have:=(aM.out t).size;omega
    have y1:(gt t).cell? ⟨D,1,none⟩=some (.int .i64 (k:Int)):=bJ.out.get 1 _ rfl
    have y2:(gt t).frozen? ⟨D,1,none⟩=false:=bJ.out.frozen 1
    generalize gt t=w4 at*
    clear aM dz k0 k1 x1 hg0
    go_wp2_with fail
    have nG:=hide (show Bx (w4.setCell ⟨D,1,none⟩ (.int .i64 ((k:Int)+1))) D #[.string ⟨#[]⟩,.int .i64 ((k+1:Nat):Int),.int .i64 0,.int .u8 0,.slice none 0 0,.slice none 0 0,.slice none 0 0] 37 from by
     have h:=bJ.out.set 1 (.int .i64 ((k:Int)+1))
     exact h)
    have nZ:=hide (jy nG.out)
    go_roundw
    case rel=>exact⟨k+1,by omega,by omega,hide (fun j h1 h2=>by
     rcases(by omega:j<k∨j=k)with h | rfl
     ·exact bC.out j h1 h
     ·exact hxk),nG,hide (aK.out.setCell (p:=⟨D,1,none⟩) (Nat.le_refl D) _),by rw[size_setCell];exact kL⟩
    case measure=>rw[nZ.out,mH.out];omega
   case pos=>
    exfalso
    have:=kS hk1 hk5 hxk bC.out
    omega
  case neg=>
   have HF:=hide (show bP S (x::rest)=none from by
    cases rest with
    |nil=>rfl
    |cons a t=>
     simp only[bP,hbad]
     split
     ·rfl
     ·rfl)
   obtain rfl:k=6:=by omega
   go_wp2_with fail
   rw[show(((6:Nat):Int))=6 from rfl]at x1
   refine bB (by kernel_rfl) (by kernel_rfl) ?_
   intro T hT gt hg1 hgi
   have aM:=hide hg1
   have dz:=hide hgi
   have k0:∀t,(gt t).cell? ⟨g,0,none⟩=some (.string ⟨x.toArray⟩):=fun t=>((hg1 t).cell (p:=⟨g,0,none⟩) (by show g<_;omega)).trans hg0
   have k1:∀t,(gt t).cell? ⟨D,1,none⟩=some (.int .i64 6):=fun t=>((hg1 t).cell (p:=⟨D,1,none⟩) (by show D<_;omega)).trans x1
   clear hg1 hgi
   repeat (go_big_quiet_step (fail))
   refine wpQuiet_nil ?_
   intro _ hw'
   obtain⟨t,rfl⟩:=hw'
   have bJ:=hide (HX.out.below (aM.out t))
   have aK:=hide (HB.out.trans ((aM.out t).mono (by omega)))
   have kL:D+1≤(gt t).heap.size :=by have:=(aM.out t).size;omega
   have y1:(gt t).cell? ⟨D,1,none⟩=some (.int .i64 6):=bJ.out.get 1 _ rfl
   have y2:(gt t).frozen? ⟨D,1,none⟩=false:=bJ.out.frozen 1
   have ya:∀o,((gt t).alloc o).cell? ⟨D,1,none⟩=some (.int .i64 6):=fun o=>(bJ.out.below (below_alloc2 _ o)).get 1 _ rfl
   generalize gt t=w4 at*
   clear aM dz k0 k1 x1 hg0 bC mH HX HB hsz
   have hne:D≠w4.heap.size:=by omega
   go_wp2_with fail
   go_ret
   exact⟨(aK.out.mono (by omega)).alloc (by omega) _,.inl ⟨HF.out,rfl⟩⟩
end Go.Proofs.YtifkacnoiocebaaDoor
