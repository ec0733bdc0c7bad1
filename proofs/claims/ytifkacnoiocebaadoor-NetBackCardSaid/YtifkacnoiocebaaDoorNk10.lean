/- A part of the proof: Nr1. -/
import Derived.Test.YtifkacnoiocebaaDoorNk4
import Derived.Test.YtifkacnoiocebaaDoorNk9
set_option linter.unusedVariables false
set_option linter.unusedSimpArgs false
set_option maxRecDepth 100000
namespace Go.Proofs.YtifkacnoiocebaaDoor
open Go.RowKit
def gU (l:List UInt8):Option (List Int):=if(pieces 44 l).all (fun x=>decide (0≤aH x 100))=true then some ((pieces 44 l).map fun x=>aH x 100)else none
def jS:Nat→List Int→Option Nat
 |p,[]=>some p
 |p,n::t=>if 8≤n∨p.testBit n.toNat=true then none else jS (p ||| 2 ^ n.toNat) t
def fC (x:List UInt8):Nat:=if x=aN 1 then 1 else if x=aN 2 then 2 else if x=aN 3 then 3 else if x=aN 4 then 4 else if x=aN 5 then 5 else 0
structure dH where
 ds:List Dev
 ls:List au
def iF (l:List UInt8):ByteArray:=⟨l.toArray⟩
def oL:List UInt8:=[112,101,114,109,105,116]
def sZ:List UInt8:=[100,101,110,121]
def qz:List UInt8:=[114,111,117,116,101]
def tq:List UInt8:=[108,105,110,107]
def cB (S:dH) (w:List (List UInt8)):Option dH:=
 match w with
 |x::nm::rest=>
  if S.ls≠[]∨bT (iF nm)=false then none else
  match fC x,rest with
  |1,[a]=>if 0≤aH a 100 then some ⟨S.ds++[⟨iF nm,1,aH a 100,0,[],[],[]⟩],S.ls⟩else none
  |2,[]=>some ⟨S.ds++[⟨iF nm,2,0,0,[],[],[]⟩],S.ls⟩
  |3,[]=>some ⟨S.ds++[⟨iF nm,3,0,0,[],[],[]⟩],S.ls⟩
  |4,[a,l]=>if 0≤aH a 100 then(match gU l with
   |some xs=>(match jS 0 xs with
    |some p=>some ⟨S.ds++[⟨iF nm,4,aH a 100,p,[],[],[]⟩],S.ls⟩
    |none=>none)
   |none=>none)else none
  |5,[a,l]=>if 0≤aH a 100 then(match gU l with
   |some xs=>some ⟨S.ds++[⟨iF nm,5,aH a 100,0,xs,[],[]⟩],S.ls⟩
   |none=>none)else none
  |_,_=>none
 |_=>none
def jH (S:dH) (f:Dev→Dev):Option dH:=if S.ls≠[]then none else match S.ds.getLast? with
 |some d=>some ⟨S.ds.dropLast++[f d],S.ls⟩
 |none=>none
def iw (S:dH) (b:Bool) (w:List (List UInt8)):Option dH:=if(bF (aS [32] w)).2=0 then jH S (fun d=>{ d with rules:=d.rules++[⟨b,(bF (aS [32] w)).1⟩] })else none
def fQ (S:dH) (w:List (List UInt8)):Option dH:=match w with
 |[vb,p]=>(match pieces 47 vb with
  |[v,b]=>if 0≤aH v 100∧0≤aH b 100∧0≤aH p 100 then jH S (fun d=>{ d with routes:=d.routes++[⟨aH v 100,aH b 100,aH p 100⟩] })else none
  |_=>none)
 |_=>none
def jd (ds:List Dev) (nm:List UInt8):Int:=iD (fun d:Dev=>eG d.name (iF nm)) ds
def j5 (S:dH) (w:List (List UInt8)):Option dH:=match w with
 |[a,p,b,q]=>if 0≤jd S.ds a∧0≤jd S.ds b∧0≤aH p 100∧0≤aH q 100 then some ⟨S.ds,S.ls++[⟨jd S.ds a,aH p 100,jd S.ds b,aH q 100⟩]⟩else none
 |_=>none
def bU (S:dH) (w:List (List UInt8)):Option dH:=match w with
 |[]=>none
 |x::rest=>if x=oL then iw S true rest else if x=sZ then iw S false rest else if x=qz then fQ S rest else if x=tq then j5 S rest else cB S w
def jy (S:dH) (at_:Nat):List (List UInt8)→dH⊕Nat
 |[]=>.inl S
 |l::t=>match bU S (pieces 32 l)with
  |some S'=>jy S' (at_+1) t
  |none=>.inr at_
def bD (l:List UInt8):List (List UInt8)×Bool:=if(pieces 10 l).getLast? =some []then((pieces 10 l).dropLast,true)else(pieces 10 l,false)
def fG (l:List UInt8):dH×Nat×Int:=
 if 4096<l.length then(⟨[],[]⟩,0,2)else
 match jy ⟨[],[]⟩ 1 (if(bD l).2=true then(bD l).1 else(bD l).1.dropLast)with
 |.inr k=>(⟨[],[]⟩,k,3)
 |.inl S=>if(bD l).2=false then(⟨[],[]⟩,(bD l).1.length,3)else if fE S.ds S.ls=0 then(S,0,0)else(⟨[],[]⟩,0,fE S.ds S.ls)
end Go.Proofs.YtifkacnoiocebaaDoor
