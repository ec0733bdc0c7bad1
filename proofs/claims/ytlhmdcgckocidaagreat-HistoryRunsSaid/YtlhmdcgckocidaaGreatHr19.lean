/- A part of the proof: StepDrop, LawFire, LawFB, MindF, LawSet, Arr, Opens. -/
import Derived.Test.YtlhmdcgckocidaaGreatHr18
set_option linter.unusedVariables false
set_option linter.unusedSimpArgs false
set_option maxRecDepth 100000
set_option maxHeartbeats 8000000
namespace Go.Proofs.YtlhmdcgckocidaaGreat
open Go.Maps Go.RowKit
section
variable {w w':World} {g:Nat} {n:aH} {f o b:Nat} {M:aK} {k:Nat}
theorem aM.aeO (h:aM w g n f o b M k) {a:l7} (r1:aS Tryz.prog 222 jg mF w' f (rM (mK M) a)) (r2:w.mapTurned w' f):aM w' g n f o b (M.drop (.flow a)) k∧aL (eX f o b) w.heap.size w w':=by
 rw[ME]at r1
 have st:=bE.iJ r2
 refine⟨⟨st _ _ trivial h.c0,st _ _ trivial h.c1,st _ _ trivial h.c2,st _ _ trivial h.c3,st _ _ trivial h.c4,?_,r1,h.mo.turned r2 h.xS.symm,h.mb.turned r2 h.xU.symm,h.xS,h.xU,h.xV,h.lf.imp fun L x=>⟨x.1,fun y hy=>x.2 y ?_⟩,h.lo,h.lb,h.oo,h.ob⟩,aL.iJ r2 (.inl rfl)⟩
 ·exact h.net.stay st (fun _ _=>trivial) (fun _ _=>trivial) (fun _ _=>⟨fun _ _=>trivial,fun _ _=>trivial,fun _ _=>trivial⟩) r2.grown.size
 ·simp only[aK.drop]at hy
  by_cases e:y=a
  ·rw[if_pos e]at hy;cases hy
  ·rwa [if_neg e]at hy
theorem aM.aeP (h:aM w g n f o b M k) {a:dB} (r1:aS Tryz.prog 225 dS eD w' o (rM (kZ M) a)) (r2:w.mapTurned w' o):aM w' g n f o b (M.drop (.owner a)) k∧aL (eX f o b) w.heap.size w w':=by
 rw[JK]at r1
 have st:=bE.iJ r2
 have hd:∀y u,(M.drop (.owner a)).O y=some u→M.O y=some u:=fun y u hy=>by
  simp only[aK.drop]at hy
  by_cases e:y=a
  ·rw[if_pos e]at hy;cases hy
  ·rwa [if_neg e]at hy
 refine⟨⟨st _ _ trivial h.c0,st _ _ trivial h.c1,st _ _ trivial h.c2,st _ _ trivial h.c3,st _ _ trivial h.c4,?_,h.mf.turned r2 h.xS,r1,h.mb.turned r2 h.xV.symm,h.xS,h.xU,h.xV,h.lf,h.lo.imp fun L x=>⟨x.1,fun y hy=>x.2 y ?_⟩,h.lb,fun y v hy=>h.oo y v (hd y v hy),h.ob⟩,aL.iJ r2 (.inr (.inl rfl))⟩
 ·exact h.net.stay st (fun _ _=>trivial) (fun _ _=>trivial) (fun _ _=>⟨fun _ _=>trivial,fun _ _=>trivial,fun _ _=>trivial⟩) r2.grown.size
 ·obtain⟨u,hu⟩:=Option.isSome_iff_exists.1 hy
  rw[hd y u hu];rfl
theorem aM.aeQ (h:aM w g n f o b M k) {a:l7} (r1:aS Tryz.prog 222 jg mF w' b (rM (nK M) a)) (r2:w.mapTurned w' b):aM w' g n f o b (M.drop (.back a)) k∧aL (eX f o b) w.heap.size w w':=by
 rw[MF]at r1
 have st:=bE.iJ r2
 have hd:∀y u,(M.drop (.back a)).B y=some u→M.B y=some u:=fun y u hy=>by
  simp only[aK.drop]at hy
  by_cases e:y=a
  ·rw[if_pos e]at hy;cases hy
  ·rwa [if_neg e]at hy
 refine⟨⟨st _ _ trivial h.c0,st _ _ trivial h.c1,st _ _ trivial h.c2,st _ _ trivial h.c3,st _ _ trivial h.c4,?_,h.mf.turned r2 h.xU,h.mo.turned r2 h.xV,r1,h.xS,h.xU,h.xV,h.lf,h.lo,h.lb.imp fun L x=>⟨x.1,fun y hy=>x.2 y ?_⟩,h.oo,fun y v hy=>h.ob y v (hd y v hy)⟩,aL.iJ r2 (.inr (.inr rfl))⟩
 ·exact h.net.stay st (fun _ _=>trivial) (fun _ _=>trivial) (fun _ _=>⟨fun _ _=>trivial,fun _ _=>trivial,fun _ _=>trivial⟩) r2.grown.size
 ·obtain⟨u,hu⟩:=Option.isSome_iff_exists.1 hy
  rw[hd y u hu];rfl
theorem aM.ZR (h:aM w g n f o b M k) (a:l7) (ha:mF a):(Instr.lookup 211 (.map (some f)) (jg a) true).run Tryz.prog w= .ok (.tuple #[.bool (M.F a),.bool (M.F a)]) w:=by
 have:=(h.mf.Cn wQ Tryz.underlying211 (z:=.bool false) (by kernel_rfl) ha).1
 rw[this]
 simp only[mK]
 cases M.F a<;>rfl
end
theorem OZ {M:aK} {a:l7} (h:M.F a=false):M.drop (.flow a)=M:=by
 cases M with
 |mk F O B=>
  simp only[aK.drop]
  congr 1
  funext x
  by_cases e:x=a
  ·rw[if_pos e,e];exact h.symm
  ·rw[if_neg e]
theorem O0 {M:aK} {a:dB} (h:M.O a=none):M.drop (.owner a)=M:=by
 cases M with
 |mk F O B=>
  simp only[aK.drop]
  congr 1
  funext x
  by_cases e:x=a
  ·rw[if_pos e,e];exact h.symm
  ·rw[if_neg e]
theorem O1 {M:aK} {a:l7} (h:M.B a=none):M.drop (.back a)=M:=by
 cases M with
 |mk F O B=>
  simp only[aK.drop]
  congr 1
  funext x
  by_cases e:x=a
  ·rw[if_pos e,e];exact h.symm
  ·rw[if_neg e]
theorem O3 (g:Nat) (n:aH) (f o b:Nat) (M:aK) (k:Nat) (i:Int) (p:P4) (W:World) (hM:aM W g n f o b M k) (hi:ay i) (hp:p.ok):
  Calls Tryz.prog 125 #[.map (some f),.agg #[.int .i64 i,.int .i64 p.src,.int .i64 p.dst,.int .i64 p.ah,.int .i64 p.aj]] W fun e W'=>e= .returned (.int .i64 (if M.F (i,p)=true then 0 else 7))∧aM W' g n f o b (M.drop (.flow (i,p))) k∧aL (eX f o b) W.heap.size W W':=by
 have hd:mF (i,p):=⟨hi,hp⟩
 have hb:Below W.heap.size W (W.alloc (.cells #[.int .i64 i,.int .i64 p.src,.int .i64 p.dst,.int .i64 p.ah,.int .i64 p.aj] 222)):=(Below.refl _ _).alloc (Nat.le_refl _) _
 have iP:=hide (hM.below hb)
 have hlk:=iP.out.ZR (i,p) hd
 simp only[jg]at hlk
 have HB:=hide hb
 clear hM hb
 cases hf:M.F (i,p)
 case false=>
  rw[hf]at hlk
  skip
  go_enter Tryz.func125,Tryz.ntmps125
  go_wp2
  go_ret
  refine⟨aO (by rfl),?_,?_⟩
  ·rw[OZ hf];exact(iP.out)
  ·exact aL.of_below (HB.out)
 case true=>
  rw[hf]at hlk
  skip
  obtain⟨w2,hdel,r1,r2⟩:=iP.out.mf.O4 wQ Tryz.underlying211 hd 0
  simp only[jg]at hdel
  go_enter Tryz.func125,Tryz.ntmps125
  go_wp2
  go_ret
  have q:=iP.out.aeO r1 r2
  exact⟨aO (by rfl),q.1,(aL.of_below HB.out).trans (q.2.mono HB.out.size)⟩
theorem O5 (g:Nat) (n:aH) (f o b:Nat) (M:aK) (k:Nat) (i:Int) (p:P4) (W:World) (hM:aM W g n f o b M k) (hi:ay i) (hp:p.ok):
  Calls Tryz.prog 127 #[.map (some b),.agg #[.int .i64 i,.int .i64 p.src,.int .i64 p.dst,.int .i64 p.ah,.int .i64 p.aj]] W fun e W'=>e= .returned (.int .i64 (if(M.B (i,p)).isSome =true then 0 else 7))∧aM W' g n f o b (M.drop (.back (i,p))) k∧aL (eX f o b) W.heap.size W W':=by
 have hd:mF (i,p):=⟨hi,hp⟩
 have hb:Below W.heap.size W (W.alloc (.cells #[.int .i64 i,.int .i64 p.src,.int .i64 p.dst,.int .i64 p.ah,.int .i64 p.aj] 222)):=(Below.refl _ _).alloc (Nat.le_refl _) _
 have iP:=hide (hM.below hb)
 have hlk:=iP.out.Em (i,p) hd
 simp only[jg]at hlk
 have HB:=hide hb
 clear hM hb
 cases hf:M.B (i,p)
 case none=>
  rw[hf]at hlk
  simp only[Option.getD_none,Option.getD_some,Option.isSome_none,Option.isSome_some]at hlk
  go_enter Tryz.func127,Tryz.ntmps127
  go_wp2
  go_ret
  refine⟨aO (by rfl),?_,?_⟩
  ·rw[O1 hf];exact(iP.out)
  ·exact aL.of_below (HB.out)
 case some u=>
  rw[hf]at hlk
  simp only[Option.getD_none,Option.getD_some,Option.isSome_none,Option.isSome_some]at hlk
  obtain⟨w2,hdel,r1,r2⟩:=iP.out.mb.O4 wQ Tryz.underlying213 hd 0
  simp only[jg]at hdel
  go_enter Tryz.func127,Tryz.ntmps127
  go_wp2
  go_ret
  have q:=iP.out.aeQ r1 r2
  exact⟨aO (by rfl),q.1,(aL.of_below HB.out).trans (q.2.mono HB.out.size)⟩
theorem O6 (g:Nat) (n:aH) (f o b:Nat) (M:aK) (k:Nat) (i:Int) (p:Int) (W:World) (hM:aM W g n f o b M k) (hi:ay i) (hp:ay p):
  Calls Tryz.prog 126 #[.map (some o),.agg #[.int .i64 i,.int .i64 p]] W fun e W'=>e= .returned (.int .i64 (if(M.O (i,p)).isSome =true then 0 else 7))∧aM W' g n f o b (M.drop (.owner (i,p))) k∧aL (eX f o b) W.heap.size W W':=by
 have hd:eD (i,p):=⟨hi,hp⟩
 have hb:Below W.heap.size W (W.alloc (.cells #[.int .i64 i,.int .i64 p] 225)):=(Below.refl _ _).alloc (Nat.le_refl _) _
 have iP:=hide (hM.below hb)
 have hlk:=iP.out.lookO (i,p) hd
 simp only[dS,yD]at hlk
 have HB:=hide hb
 clear hM hb
 cases hf:M.O (i,p)
 case none=>
  rw[hf]at hlk
  simp only[Option.getD_none,Option.getD_some,Option.isSome_none,Option.isSome_some]at hlk
  go_enter Tryz.func126,Tryz.ntmps126
  go_wp2
  go_ret
  refine⟨aO (by rfl),?_,?_⟩
  ·rw[O0 hf];exact(iP.out.below ((Below.refl _ _).alloc (Nat.le_refl _) _))
  ·exact aL.of_below (HB.out.alloc HB.out.size _)
 case some u=>
  rw[hf]at hlk
  simp only[Option.getD_none,Option.getD_some,Option.isSome_none,Option.isSome_some]at hlk
  obtain⟨w2,hdel,r1,r2⟩:=(iP.out.below ((Below.refl _ _).alloc (Nat.le_refl _) (.cells #[.int .i64 u.1,.int .i64 u.2] 227))).mo.O4 JL Tryz.underlying212 hd 0
  simp only[dS,yD]at hdel
  go_enter Tryz.func126,Tryz.ntmps126
  go_wp2
  go_ret
  have q:=(iP.out.below ((Below.refl _ _).alloc (Nat.le_refl _) (.cells #[.int .i64 u.1,.int .i64 u.2] 227))).aeP r1 r2
  exact⟨aO (by rfl),q.1,(aL.of_below (HB.out.alloc HB.out.size _)).trans (q.2.mono (HB.out.alloc HB.out.size _).size)⟩
-- END OF DROPS
def fT (ds:List Dev) (M:aK) (i:Int) (p:P4) (q:Int):Int×aK:=
 if i<0 then(4,M)else match ds[i.toNat]? with
 |none=>(4,M)
 |some r=>if r.kind=3 then(if M.F (i,p)=true then 0 else 7,M.drop (.flow (i,p)))else if r.kind=4 then(if(M.O (i,q)).isSome =true then 0 else 7,M.drop (.owner (i,q)))
  else if r.kind=5 then(if(M.B (i,p)).isSome =true then 0 else 7,M.drop (.back (i,p)))else(4,M)
theorem MG (g:Nat) (n:aH) (f o b:Nat) (M:aK) (k:Nat) (i:Int) (p:P4) (q:Int) (W:World) (hM:aM W g n f o b M k) (hn:n.dn≤10) (hi:ay i) (hp:p.ok) (hq:ay q):
  Calls Tryz.prog 81 #[.pointer (some ⟨g,0,none⟩),.int .i64 i,.agg #[.int .i64 p.src,.int .i64 p.dst,.int .i64 p.ah,.int .i64 p.aj],.int .i64 q] W fun e W'=>
   e= .returned (.int .i64 (fT n.au M i p q).1)∧aM W' g n f o b (fT n.au M i p q).2 k∧aL (eX f o b) W.heap.size W W':=by
 have hdl:=fq hM.net
 have HB1:=hide (show Below W.heap.size W (W.alloc (.cells #[.int .i64 p.src,.int .i64 p.dst,.int .i64 p.ah,.int .i64 p.aj] 29))from(Below.refl _ _).alloc (Nat.le_refl _) _)
 have cK:=hide (aB.new W #[.int .i64 p.src,.int .i64 p.dst,.int .i64 p.ah,.int .i64 p.aj] 29)
 have HL1:=hide (show W.heap.size<(W.alloc (.cells #[.int .i64 p.src,.int .i64 p.dst,.int .i64 p.ah,.int .i64 p.aj] 29)).heap.size by simp)
 have iP:=hide (hM.below HB1.out)
 have bZ:=hide (fun(w':World) (hb:Below W.heap.size W w')=>hM.below hb)
 obtain⟨S,hS⟩:∃S,fT n.au M i p q=S:=⟨_,rfl⟩
 rw[hS]
 have gV:=hide hS
 have d2:(n.dn:Int)≤10:=by omega
 clear hM hS
 have k0:=iP.out.c0
 by_cases h1:i<0
 ·have HS:=hide (show S=(4,M)from by rw[← gV.out];simp[fT,h1])
  go_enter Tryz.func81,Tryz.ntmps81
  go_wp2
  go_ret
  exact⟨aO (by rw[HS.out]),by rw[HS.out];exact iP.out,aL.of_below HB1.out⟩
 have e1:decide (i<0)=false:=by simp;omega
 by_cases h2:(n.dn:Int)≤i
 ·have HS:=hide (show S=(4,M)from by rw[← gV.out];simp[fT,h1,List.getElem?_eq_none (show n.au.length≤i.toNat by omega)])
  go_enter Tryz.func81,Tryz.ntmps81
  go_wp2
  go_ret
  exact⟨aO (by rw[HS.out]),by rw[HS.out];exact iP.out,aL.of_below HB1.out⟩
 obtain⟨j,rfl⟩:∃j:Nat,i=(j:Int):=⟨i.toNat,by omega⟩
 have hjl:j<n.ds.length:=by have:=iP.out.net.eZ;omega
 obtain⟨r,hr⟩:∃r,n.ds[j]?=some r:=⟨_,List.getElem?_eq_getElem hjl⟩
 obtain⟨db,od,dN,JF,JG⟩:=iP.out.net.ds.2 (by omega)
 clear JF JG
 have Dx:=iP.out.net.ds
 rw[dN]at Dx
 rw[dN]at k0
 have k3:=(dF Dx hr).2.2.1
 have GZ:=hide (show S=(if r.kind=3 then(if M.F ((j:Int),p)=true then 0 else 7,M.drop (.flow ((j:Int),p)))else if r.kind=4 then(if(M.O ((j:Int),q)).isSome =true then 0 else 7,M.drop (.owner ((j:Int),q)))
  else if r.kind=5 then(if(M.B ((j:Int),p)).isSome =true then 0 else 7,M.drop (.back ((j:Int),p)))else(4,M))from by
  have hr':n.au[j]?=some r.dev:=by simp[aH.au,hr]
  rw[← gV.out]
  unfold fT
  rw[if_neg h1,Int.toNat_natCast,hr']
  rfl)
 have e2:decide ((n.dn:Int)≤(j:Int))=false:=by simp;omega
 have i1:(0:Int)≤(j:Int):=by omega
 have i2:(j:Int)<(n.dn:Int):=by omega
 clear Dx hjl hdl gV dN h1 h2
 have HF:=hide (fun(w':World) (hb:Below (W.alloc (.cells #[.int .i64 p.src,.int .i64 p.dst,.int .i64 p.ah,.int .i64 p.aj] 29)).heap.size (W.alloc (.cells #[.int .i64 p.src,.int .i64 p.dst,.int .i64 p.ah,.int .i64 p.aj] 29)) w')=>show(w'.cell? ⟨g,1,none⟩=some (.slice n.lA n.ln n.lc)∧w'.cell? ⟨g,2,none⟩=some (.map (some f))∧w'.cell? ⟨g,3,none⟩=some (.map (some o))∧w'.cell? ⟨g,4,none⟩=some (.map (some b))∧
   (w'.cell? ⟨W.heap.size,0,none⟩=some (.int .i64 p.src)∧w'.cell? ⟨W.heap.size,1,none⟩=some (.int .i64 p.dst)∧w'.cell? ⟨W.heap.size,2,none⟩=some (.int .i64 p.ah)∧w'.cell? ⟨W.heap.size,3,none⟩=some (.int .i64 p.aj)))from by
  have q:=cK.out.below hb HL1.out
  have m:=iP.out.below hb
  exact⟨m.c1,m.c2,m.c3,m.c4,q.1 0 _ rfl,q.1 1 _ rfl,q.1 2 _ rfl,q.1 3 _ rfl⟩)
 have HW:=hide (fun(w':World) (hb:Below (W.alloc (.cells #[.int .i64 p.src,.int .i64 p.dst,.int .i64 p.ah,.int .i64 p.aj] 29)).heap.size (W.alloc (.cells #[.int .i64 p.src,.int .i64 p.dst,.int .i64 p.ah,.int .i64 p.aj] 29)) w')=>show Below W.heap.size W w' from HB1.out.trans (hb.mono HB1.out.size))
 by_cases hk3:r.kind=3
 ·have HS:=hide (show S=(if M.F ((j:Int),p)=true then 0 else 7,M.drop (.flow ((j:Int),p)))from by rw[GZ.out,if_pos hk3])
  have HDR:=hide (fun(w':World) (hb:Below W.heap.size W w')=>O3 g n f o b M k (j:Int) p w' (bZ.out _ hb) hi hp)
  obtain⟨E,hE⟩:∃E:Int,(if M.F ((j:Int),p)=true then 0 else 7)=E:=⟨_,rfl⟩
  simp only[hE]at HDR HS
  clear hE
  rw[hk3]at k3
  clear hk3 GZ
  go_enter Tryz.func81,Tryz.ntmps81
  go_wp2
  generalize World.alloc W _=W1 at*
  refine aI (fun w'=>Below W1.heap.size W1 w') 7 (by kernel_rfl) ((Below.refl _ _).drew) (fun hS=>?_)
  refine rP 0 hS ?_
  refine rP 1 hS ?_
  refine rP 2 hS ?_
  refine rL 3 [7] rfl hS (by intro w hSw;obtain⟨s0,s1,s2,s3,s4⟩:=HF.out _ hSw;go_simp;try with_reducible rfl) ?_
  refine rP 4 hS ?_
  refine rL 5 [6,7] rfl hS (by intro w hSw;obtain⟨s0,s1,s2,s3,s4⟩:=HF.out _ hSw;go_simp;try with_reducible rfl) ?_
  refine rP 6 hS ?_
  intro inv
  refine rT 7 inv fun K hK=>?_
  go_simp
  refine(HDR.out _ (HW.out _ hS)).mono ?_
  rintro e w9 ⟨rfl,yZ,rJ⟩
  have xW:=hide yZ
  have Es:=hide ((aL.of_below (p:=eX f o b) (HW.out _ hS)).trans (rJ.mono (HW.out _ hS).size))
  clear yZ rJ
  go_wp2_with fail
  refine hK.out _ _ ?_
  clear hK K inv
  intro inv
  try simp only[Act.put,aD,aF,aG]
  refine rT 8 inv fun K hK=>?_
  go_simp
  refine hK.out _ _ ?_
  clear hK K inv
  intro inv
  try simp only[Act.put,aD,aF,aG]
  refine rD ?_
  clear inv
  go_wp2
  go_ret
  exact⟨aO (by rw[HS.out]),by rw[HS.out];exact xW.out,Es.out⟩
 by_cases hk4:r.kind=4
 ·have HS:=hide (show S=(if(M.O ((j:Int),q)).isSome =true then 0 else 7,M.drop (.owner ((j:Int),q)))from by rw[GZ.out,if_neg hk3,if_pos hk4])
  have HDR:=hide (fun(w':World) (hb:Below W.heap.size W w')=>O6 g n f o b M k (j:Int) q w' (bZ.out _ hb) hi hq)
  obtain⟨E,hE⟩:∃E:Int,(if(M.O ((j:Int),q)).isSome =true then 0 else 7)=E:=⟨_,rfl⟩
  simp only[hE]at HDR HS
  clear hE
  rw[hk4]at k3
  have k5:=iP.out.c3
  clear hk3 hk4 GZ
  go_enter Tryz.func81,Tryz.ntmps81
  go_wp2_with fail
  generalize World.alloc W _=W1 at*
  refine(HDR.out _ (HB1.out)).mono ?_
  rintro e w9 ⟨rfl,yZ,rJ⟩
  go_wp2
  go_ret
  exact⟨aO (by rw[HS.out]),by rw[HS.out];exact yZ,(aL.of_below HB1.out).trans (rJ.mono HB1.out.size)⟩
 by_cases hk5:r.kind=5
 ·have HS:=hide (show S=(if(M.B ((j:Int),p)).isSome =true then 0 else 7,M.drop (.back ((j:Int),p)))from by rw[GZ.out,if_neg hk3,if_neg hk4,if_pos hk5])
  have HDR:=hide (fun(w':World) (hb:Below W.heap.size W w')=>O5 g n f o b M k (j:Int) p w' (bZ.out _ hb) hi hp)
  obtain⟨E,hE⟩:∃E:Int,(if(M.B ((j:Int),p)).isSome =true then 0 else 7)=E:=⟨_,rfl⟩
  simp only[hE]at HDR HS
  clear hE
  rw[hk5]at k3
  clear hk3 hk4 hk5 GZ
  go_enter Tryz.func81,Tryz.ntmps81
  go_wp2
  generalize World.alloc W _=W1 at*
  refine aI (fun w'=>Below W1.heap.size W1 w') 7 (by kernel_rfl) ((Below.refl _ _).drew) (fun hS=>?_)
  refine rP 0 hS ?_
  refine rP 1 hS ?_
  refine rP 2 hS ?_
  refine rL 3 [7] rfl hS (by intro w hSw;obtain⟨s0,s1,s2,s3,s4⟩:=HF.out _ hSw;go_simp;try with_reducible rfl) ?_
  refine rP 4 hS ?_
  refine rL 5 [6,7] rfl hS (by intro w hSw;obtain⟨s0,s1,s2,s3,s4⟩:=HF.out _ hSw;go_simp;try with_reducible rfl) ?_
  refine rP 6 hS ?_
  intro inv
  refine rT 7 inv fun K hK=>?_
  go_simp
  refine(HDR.out _ (HW.out _ hS)).mono ?_
  rintro e w9 ⟨rfl,yZ,rJ⟩
  have xW:=hide yZ
  have Es:=hide ((aL.of_below (p:=eX f o b) (HW.out _ hS)).trans (rJ.mono (HW.out _ hS).size))
  clear yZ rJ
  go_wp2_with fail
  refine hK.out _ _ ?_
  clear hK K inv
  intro inv
  try simp only[Act.put,aD,aF,aG]
  refine rT 8 inv fun K hK=>?_
  go_simp
  refine hK.out _ _ ?_
  clear hK K inv
  intro inv
  try simp only[Act.put,aD,aF,aG]
  refine rD ?_
  clear inv
  go_wp2
  go_ret
  exact⟨aO (by rw[HS.out]),by rw[HS.out];exact xW.out,Es.out⟩
 have HS:=hide (show S=(4,M)from by rw[GZ.out,if_neg hk3,if_neg hk4,if_neg hk5])
 have d3:(r.kind ==3)=false:=by simp[hk3]
 have d4:(r.kind ==4)=false:=by simp[hk4]
 have d5:(r.kind ==5)=false:=by simp[hk5]
 clear GZ hk3 hk4 hk5
 go_enter Tryz.func81,Tryz.ntmps81
 go_wp2
 go_ret
 exact⟨aO (by rw[HS.out]),by rw[HS.out];exact iP.out,aL.of_below HB1.out⟩
structure BX (W:World) (L:List (Nat×Array Value)) (w:World):Prop where
 bl:Below W.heap.size W w
 bx:∀x∈L,aB w x.1 x.2∧x.1<w.heap.size
theorem BX.below {W w w':World} {L:List (Nat×Array Value)} (h:BX W L w) (hb:Below w.heap.size w w'):BX W L w':=
 ⟨h.bl.trans (hb.mono h.bl.size),fun x hx=>⟨(h.bx x hx).1.below hb (h.bx x hx).2,Nat.lt_of_lt_of_le (h.bx x hx).2 hb.size⟩⟩
theorem BX.get {W w:World} {L:List (Nat×Array Value)} (h:BX W L w) (i:Nat) {x:Nat×Array Value} (hx:L[i]?=some x):aB w x.1 x.2:=(h.bx x (List.mem_of_getElem? hx)).1
theorem BX.more {W w w':World} {L:List (Nat×Array Value)} (h:BX W L w) (hb:Below w.heap.size w w') {N:Nat} {vs:Array Value} (hx:aB w' N vs) (hN:N<w'.heap.size):BX W ((N,vs)::L) w':=
 ⟨(h.below hb).bl,fun x hm=>by
  rcases List.mem_cons.1 hm with rfl | hm
  ·exact⟨hx,hN⟩
  ·exact(h.below hb).bx x hm⟩
theorem BX.less {W w:World} {L:List (Nat×Array Value)} {x:Nat×Array Value} (h:BX W (x::L) w):BX W L w:=⟨h.bl,fun y hy=>h.bx y (List.mem_cons_of_mem _ hy)⟩
structure FA (W:World) (L:List (Nat×Array Value)) (g:Nat) (n:aH) (f o b:Nat) (M:aK) (k:Nat) (w:World):Prop where
 box:BX W L w
 mem:aM w g n f o b M k
 ap:∀x∈L,¬eX f o b x.1
 lo:∀j,eX f o b j→W.heap.size≤j
section
variable {W w w':World} {L:List (Nat×Array Value)} {g:Nat} {n:aH} {f o b:Nat} {M M':aK} {k k':Nat}
theorem FA.near (h:FA W L g n f o b M k w) (hm:aM w' g n f o b M' k') (hn:aL (eX f o b) w.heap.size w w'):FA W L g n f o b M' k' w':=
 ⟨⟨((aL.of_below (p:=eX f o b) h.box.bl).trans (hn.mono h.box.bl.size)).below (Nat.le_refl _) h.lo,fun x hx=>⟨(h.box.bx x hx).1.near hn (h.box.bx x hx).2 (h.ap x hx),Nat.lt_of_lt_of_le (h.box.bx x hx).2 hn.size⟩⟩,hm,h.ap,h.lo⟩
theorem FA.more (h:FA W L g n f o b M k w) {N:Nat} {vs:Array Value} (hx:aB w N vs) (hN:N<w.heap.size) (ha:¬eX f o b N):FA W ((N,vs)::L) g n f o b M k w:=
 ⟨h.box.more (Below.refl _ _) hx hN,h.mem,fun x hm=>by
  rcases List.mem_cons.1 hm with rfl | hm
  ·exact ha
  ·exact h.ap x hm,h.lo⟩
end
theorem O7 (d:Dev) (M:aK) (y:Int) (p:P4) (ch:Int) (hy:0≤y∧y<dL d.kind) (hp:aV p=true):
  eO (d9 d) aX M 1 y p ch=pY aX 1 (bD ⟨⟨#[100]⟩,d.kind,d.addr,d.pool,d.backs,d.rules,d.routes⟩ M 1 y p ch):=
 JC (by rw[Js (x:=0)];simp[hy]) hp rfl
theorem O8 (R:List aY) (M:aK) (p:P4) (ch:Int) (hp:aV p=true):eO (d9 (jA R)) aX M 1 0 p ch=if kM R p=true then⟨0,(2,0),p,.flow (1,p)⟩else .bad 7:=by
 rw[O7 _ _ _ _ _ (by simp[jA,dL]) hp]
 simp[bD,jA,qA,pY,ab9]
structure FB (W:World) (L:List (Nat×Array Value)) (g:Nat) (n:aH) (f o b:Nat) (M:aK) (k:Nat) (w0:World) (Z:List (Nat×Array Value)) (M':aK) (k':Nat) (w:World):Prop where
 f0:FA W L g n f o b M k w0
 mem:aM w g n f o b M' k'
 near:aL (eX f o b) w0.heap.size w0 w
 z:∀x∈Z,aB w x.1 x.2∧x.1<w.heap.size∧w0.heap.size≤x.1
section
variable {W w w' w0:World} {L Z:List (Nat×Array Value)} {g:Nat} {n:aH} {f o b:Nat} {M M' M'':aK} {k k' k'':Nat}
theorem FA.start (h:FA W L g n f o b M k w0):FB W L g n f o b M k w0 [] M k w0:=⟨h,h.mem,aL.refl _ _ _,fun x hx=>by cases hx⟩
theorem FB.O9 (h:FB W L g n f o b M k w0 Z M' k' w) {j:Nat} (hj:w0.heap.size≤j):¬eX f o b j:=fun e=>by
 have:=h.f0.mem.JD
 have:=h.f0.mem.JE
 have:=h.f0.mem.blt
 rcases e with e | e | e<;>omega
theorem FB.below (h:FB W L g n f o b M k w0 Z M' k' w) (hb:Below w.heap.size w w'):FB W L g n f o b M k w0 Z M' k' w':=
 ⟨h.f0,h.mem.below hb,h.near.trans ((aL.of_below hb).mono h.near.size),fun x hx=>⟨(h.z x hx).1.below hb (h.z x hx).2.1,Nat.lt_of_lt_of_le (h.z x hx).2.1 hb.size,(h.z x hx).2.2⟩⟩
theorem FB.d (h:FB W L g n f o b M k w0 Z M' k' w):FB W L g n f o b M k w0 Z M' k' w.drew:=h.below (Below.refl _ _).drew
theorem FB.al (h:FB W L g n f o b M k w0 Z M' k' w) (vs:Array Value) (t:TypeId):FB W L g n f o b M k w0 ((w.heap.size,vs)::Z) M' k' (w.alloc (.cells vs t)):=by
 have q:=h.below ((Below.refl _ _).alloc (Nat.le_refl _) (.cells vs t))
 refine⟨q.f0,q.mem,q.near,fun x hx=>?_⟩
 rcases List.mem_cons.1 hx with rfl | hx
 ·exact⟨aB.new _ _ _,by simp,h.near.size⟩
 ·exact q.z x hx
theorem FB.step (h:FB W L g n f o b M k w0 Z M' k' w) (hm:aM w' g n f o b M'' k'') (hn:aL (eX f o b) w.heap.size w w'):FB W L g n f o b M k w0 Z M'' k'' w':=
 ⟨h.f0,hm,h.near.trans (hn.mono h.near.size),fun x hx=>⟨(h.z x hx).1.near hn (h.z x hx).2.1 (h.O9 (h.z x hx).2.2),Nat.lt_of_lt_of_le (h.z x hx).2.1 hn.size,(h.z x hx).2.2⟩⟩
theorem FB.set {N:Nat} {vs:Array Value} (h:FB W L g n f o b M k w0 ((N,vs)::Z) M' k' w) (j:Nat) (v:Value):FB W L g n f o b M k w0 [(N,vs.setIfInBounds j v)] M' k' (w.setCell ⟨N,j,none⟩ v):=by
 obtain⟨h1,h2,h3⟩:=h.z (N,vs) List.mem_cons_self
 have hb:Below w0.heap.size w (w.setCell ⟨N,j,none⟩ v):=(Below.refl _ _).setCell h3 v
 have hn:aL (eX f o b) w0.heap.size w0 (w.setCell ⟨N,j,none⟩ v):=h.near.trans (aL.of_below hb)
 refine⟨h.f0,aM.to h.f0.mem hn h.mem hb,hn,fun x hx=>?_⟩
 obtain rfl:=List.mem_singleton.1 hx
 exact⟨h1.set j v,by simpa[World.setCell]using h2,h3⟩
theorem FB.fa (h:FB W L g n f o b M k w0 Z M' k' w):FA W L g n f o b M' k' w:=h.f0.near h.mem h.near
theorem FB.done {N:Nat} {vs:Array Value} (h:FB W L g n f o b M k w0 ((N,vs)::Z) M' k' w):FA W ((N,vs)::L) g n f o b M' k' w:=by
 obtain⟨h1,h2,h3⟩:=h.z (N,vs) List.mem_cons_self
 exact h.fa.more h1 h2 (h.O9 h3)
end
theorem Bf {w:World} {N:Nat} {a b c d:Int} (h:aB w N #[.int .i64 a,.int .i64 b,.int .i64 c,.int .i64 d]):w.cell? ⟨N,0,none⟩=some (.int .i64 a)∧w.cell? ⟨N,1,none⟩=some (.int .i64 b)∧w.cell? ⟨N,2,none⟩=some (.int .i64 c)∧w.cell? ⟨N,3,none⟩=some (.int .i64 d):=⟨h.1 0 _ rfl,h.1 1 _ rfl,h.1 2 _ rfl,h.1 3 _ rfl⟩
theorem JM {w:World} {N:Nat} {a b c d e f:Int} (h:aB w N #[.int .i64 a,.int .i64 b,.int .i64 c,.int .i64 d,.int .i64 e,.int .i64 f]):(w.cell? ⟨N,0,none⟩=some (.int .i64 a)∧w.cell? ⟨N,1,none⟩=some (.int .i64 b)∧w.cell? ⟨N,2,none⟩=some (.int .i64 c)∧w.cell? ⟨N,3,none⟩=some (.int .i64 d)∧w.cell? ⟨N,4,none⟩=some (.int .i64 e)∧w.cell? ⟨N,5,none⟩=some (.int .i64 f))∧
  w.frozen? ⟨N,0,none⟩=false∧w.frozen? ⟨N,1,none⟩=false∧w.frozen? ⟨N,2,none⟩=false∧w.frozen? ⟨N,3,none⟩=false∧w.frozen? ⟨N,4,none⟩=false∧w.frozen? ⟨N,5,none⟩=false:=
 ⟨⟨h.1 0 _ rfl,h.1 1 _ rfl,h.1 2 _ rfl,h.1 3 _ rfl,h.1 4 _ rfl,h.1 5 _ rfl⟩,h.2 _,h.2 _,h.2 _,h.2 _,h.2 _,h.2 _⟩
theorem Et {P:Program} {c:Code} {Q:Exit→Act→World→Prop} {a:Act} {w:World} (A:Nat→Act) (C:Nat→World→Prop) (h1:Shut (∀N w',C N w'→Q .normal (A N) w')→Code.wp P c Q a w) (h2:∀N w',C N w'→Q .normal (A N) w'):Code.wp P c Q a w:=h1 h2
end Go.Proofs.YtlhmdcgckocidaaGreat
namespace Go.Proofs.YtlhmdcgckocidaaGreat
open Go.RowKit
structure BN (W:World) (L:List (Nat×Array Value)) (N:Nat) (vs:Array Value) (w:World):Prop where
 box:BX W L w
 z:aB w N vs
 lt:N<w.heap.size
 ap:∀x∈L,x.1<N
 lo:W.heap.size≤N
section
variable {W w w':World} {L:List (Nat×Array Value)} {N:Nat} {vs:Array Value}
theorem BX.d (h:BX W L w):BX W L w.drew:=h.below (Below.refl _ _).drew
theorem BX.al (h:BX W L w) (vs:Array Value) (t:TypeId):BN W L w.heap.size vs (w.alloc (.cells vs t)):=
 ⟨h.below ((Below.refl _ _).alloc (Nat.le_refl _) _),aB.new _ _ _,by simp,fun x hx=>(h.bx x hx).2,h.bl.size⟩
theorem BN.done (h:BN W L N vs w):BX W ((N,vs)::L) w:=⟨h.box.bl,fun x hx=>by
 rcases List.mem_cons.1 hx with rfl | hx
 ·exact⟨h.z,h.lt⟩
 ·exact h.box.bx x hx⟩
end
theorem qB (w:World) (N:Nat) (cs:List Value):aL (fun k=>k=N) w.heap.size w (w.setCells N 0 cs):=by
 have hb:=below_setCells (B:=N) (N:=N) (Nat.le_refl _) cs 0 w (Below.refl _ _)
 have h2:=rC (L:=N+1) (N:=N) (Nat.lt_succ_self _) cs 0 w
 refine⟨hb.os,hb.tape,hb.output,h2.1,fun k hk hp=>?_⟩
 rcases Nat.lt_or_ge k N with h | h
 ·exact hb.block k h
 ·exact h2.2 k (by omega)
section
variable {W w w5:World} {g:Nat} {n:aH} {A:Option Addr} {c:Nat} {L:List OO}
theorem fC (A:Option Addr) (m c:Nat):(Value.slice A m c).ownBlock =A.map (·.block):=by cases A<;>rfl
end
open Go.Maps
theorem C8:∀(l:List Int) (ad:Int) (pre:List Int),jl ad pre l=true→∀b∈l,0≤b∧b<16
 |[],_,_,_,b,hb=>by cases hb
 |x::t,ad,pre,h,b,hb=>by
  simp only[jl,Bool.and_eq_true,decide_eq_true_eq]at h
  rcases List.mem_cons.1 hb with rfl | hb
  ·exact⟨h.1.1.1.1,h.1.1.1.2⟩
  ·exact C8 t ad _ h.2 b hb
end Go.Proofs.YtlhmdcgckocidaaGreat
namespace Go.Proofs.YtlhmdcgckocidaaGreat
open Go.RowKit
structure aQ where
 d:Int
 y:Int
 p:P4
def aQ.cells (x:aQ):List Value:=[.int .i64 x.d,.int .i64 x.y,.int .i64 x.p.src,.int .i64 x.p.dst,.int .i64 x.p.ah,.int .i64 x.p.aj]
theorem aQ.one (x:aQ):∀u∈x.cells,u.oneCell'=true:=by
 intro u hu
 simp only[aQ.cells,List.mem_cons,List.not_mem_nil,or_false]at hu
 rcases hu with rfl | rfl | rfl | rfl | rfl | rfl<;>rfl
def aQ.val (x:aQ):Value:=.agg #[.int .i64 x.d,.int .i64 x.y,.int .i64 x.p.src,.int .i64 x.p.dst,.int .i64 x.p.ah,.int .i64 x.p.aj]
def eqA (x y:aQ):Bool:=x.d ==y.d && x.y ==y.y && Zv x.p y.p
theorem YH (x y:aQ):eqA x y=true↔x=y:=by
 obtain⟨a,c,p⟩:=x
 obtain⟨a',c',p'⟩:=y
 simp[eqA,Yx,and_assoc]
instance:DecidableEq aQ:=fun x y=>decidable_of_iff _ (YH x y)
structure aQ.ok (x:aQ):Prop where
 d:ay x.d
 y:ay x.y
 p:x.p.ok
open Go.ChangeAt Go.ChangeShapes Go.WideShapes
structure bV where
 kind:Int
 dev:Int
 port:Int
 p:P4
 ch:Int
def bV.cells (x:bV):List Value:=[.int .i64 x.kind,.int .i64 x.dev,.int .i64 x.port,.int .i64 x.p.src,.int .i64 x.p.dst,.int .i64 x.p.ah,.int .i64 x.p.aj,.int .i64 x.ch]
theorem bV.len (x:bV):x.cells.length=8:=rfl
structure bV.ok (x:bV):Prop where
 k:ay x.kind
 d:ay x.dev
 y:ay x.port
 p:x.p.ok
 c:ay x.ch
section
variable {H:Type} {enc:TypeId×Value→H} {w:World} {base:Nat} {spare:Nat→Bool} {held:Bool} {r:Reach} {b0:Nat}
theorem Tryz.cellsPlace2:Tryz.prog.cellsOf 27=2:=by kernel_rfl
theorem Pb {n:Nat} {cs:List Value} {y:DataW H×List MemPlace} (h:DataW.trod enc Tryz.prog w base spare held n 27 cs=some y):∃a b:Int,(ay a∧ay b)∧cs=[.int .i64 a,.int .i64 b]:=by
 obtain⟨xs,n',_,_,hlen,hxl,hf⟩:=DataW.trod_struct Tryz.underlying27 h
 rw[Tryz.cellsPlace2]at hlen
 match cs,hlen with
 |[c0,c1],_=>
  have h0:=hf 0 _ rfl
  have h1:=hf 1 _ rfl
  obtain⟨y0,e0⟩:=get_some (xs:=xs) (i:=0) (by rw[hxl];decide)
  obtain⟨y1,e1⟩:=get_some (xs:=xs) (i:=1) (by rw[hxl];decide)
  rw[e0]at h0
  rw[e1]at h1
  simp[Co]at h0 h1
  obtain⟨a,rfl,ha⟩:=kr h0
  obtain⟨b,rfl,hb⟩:=kr h1
  exact⟨a,b,⟨ha,hb⟩,rfl⟩
theorem Pf {v:Value} {d:DataW H} {p:List MemPlace} (hv:Value.okWide Tryz.prog w r b0 27 v) (h:DataW.Trod enc Tryz.prog w base spare held 27 v d p):∃x y:Int,v= .agg #[.int .i64 x,.int .i64 y]∧ay x∧ay y:=by
 obtain⟨cs,rfl,hsz⟩:=okWide_struct Tryz.underlying27 hv
 obtain⟨fuel,hf⟩:=h
 obtain⟨a,b,hok,hc⟩:=Pb (cs:=cs.toList) hf
 refine⟨a,b,?_,hok⟩
 have:cs=#[.int .i64 a,.int .i64 b]:=by rw[← Array.toList_inj];exact hc
 rw[this]
end
end Go.Proofs.YtlhmdcgckocidaaGreat
