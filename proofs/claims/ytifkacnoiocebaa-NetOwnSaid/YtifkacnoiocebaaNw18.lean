/- A part of the proof: WorldF, ArrKeys, LawTwo, PlayA, WorldAt, ArrC. -/
import Derived.Test.YtifkacnoiocebaaNw17
import Derived.Shelf.SlMaps.Clone
import Derived.Deep.DeepCutAuto
import Derived.Deep.CutBlock
set_option linter.unusedVariables false
set_option linter.unusedSimpArgs false
set_option maxRecDepth 100000
set_option maxHeartbeats 4000000
namespace Go.Proofs.Ytifkacnoiocebaa
open Go.RowKit
def comeS (S : List ArrV) (x : ArrV) : List ArrV := if x ∈ S then S else S ++ [x]
def injR (ls : List LinkV) (S : List ArrV) (i : Int) (p : P4) (r : Dev) : Int × List ArrV :=
  if r.kind ≠ 1 then (1, S) else if rightB p = false then (1, S) else if p.src ≠ r.addr then (1, S)
  else match peerF ls (i, 0) with
    | none => (7, S)
    | some z => (0, comeS S ⟨z.1, z.2, p⟩)
def injS (ds : List Dev) (ls : List LinkV) (S : List ArrV) (i : Int) (p : P4) : Int × List ArrV :=
  if inR i 0 ((ds.length : Int) - 1) = false then (4, S)
  else match ds[i.toNat]? with
    | none => (4, S)
    | some r => injR ls S i p r
theorem injS_out {ds : List Dev} {ls : List LinkV} {S : List ArrV} {i : Int} {p : P4} (h : inR i 0 ((ds.length : Int) - 1) = false) : injS ds ls S i p = (4, S) := if_pos h
theorem injS_some {ds : List Dev} {ls : List LinkV} {S : List ArrV} {i : Int} {p : P4} (h : inR i 0 ((ds.length : Int) - 1) = true) {r : Dev} (hr : ds[i.toNat]? = some r) : injS ds ls S i p = injR ls S i p r := by
  simp [injS, h, hr]
section
variable {ls : List LinkV} {S : List ArrV} {i : Int} {p : P4} {r : Dev}
theorem injR_kind (h : r.kind ≠ 1) : injR ls S i p r = (1, S) := if_pos h
theorem injR_right (h : r.kind = 1) (h2 : rightB p = false) : injR ls S i p r = (1, S) := by simp [injR, h, h2]
theorem injR_src (h : r.kind = 1) (h2 : rightB p = true) (h3 : p.src ≠ r.addr) : injR ls S i p r = (1, S) := by simp [injR, h, h2, h3]
theorem injR_none (h : r.kind = 1) (h2 : rightB p = true) (h3 : p.src = r.addr) (h4 : peerF ls (i, 0) = none) : injR ls S i p r = (7, S) := by simp [injR, h, h2, h3, h4]
theorem injR_some (h : r.kind = 1) (h2 : rightB p = true) (h3 : p.src = r.addr) {z : Pl} (h4 : peerF ls (i, 0) = some z) : injR ls S i p r = (0, comeS S ⟨z.1, z.2, p⟩) := by simp [injR, h, h2, h3, h4]
end
def HandS.come (h : HandS) (S : List ArrV) : List ArrV := if h.e = 0 then comeS S ⟨h.to.1, h.to.2, h.q⟩ else S
structure WldS where
  M : MemS
  S : List ArrV
structure TS where
  L : List FactV
  S : List ArrV
def doS (ds : List Dev) (ls : List LinkV) (Z : WldS) (x : ActV) : Int × WldS :=
  if x.kind = 1 then ((injS ds ls Z.S x.dev x.p).1, ⟨Z.M, (injS ds ls Z.S x.dev x.p).2⟩)
  else if x.kind = 2 then
    if (⟨x.dev, x.port, x.p⟩ : ArrV) ∈ Z.S then ((handS ds ls Z.M x.dev x.port x.p x.ch).e, ⟨Z.M.learn (handS ds ls Z.M x.dev x.port x.p x.ch).kn, (handS ds ls Z.M x.dev x.port x.p x.ch).come Z.S⟩)
    else (7, Z)
  else if x.kind = 3 then ((forgetS ds Z.M x.dev x.p x.ch).1, ⟨(forgetS ds Z.M x.dev x.p x.ch).2, Z.S⟩)
  else (1, Z)
structure GoodW (ds : List Dev) (Z : WldS) : Prop where
  o : ∀ a v, Z.M.O a = some v → inR v.1 0 15 = true ∧ inR v.2 0 7 = true
  b : ∀ a v, Z.M.B a = some v → inR v 0 15 = true
  s : ∀ x ∈ Z.S, rightB x.p = true ∧ placeB ds (x.d, x.y) = true
  nd : Z.S.Nodup
theorem right4 {a b c d : Int} (h1 : inR a 0 15 = true) (h2 : inR b 0 15 = true) (h3 : inR c 0 7 = true) (h4 : inR d 0 7 = true) : rightB ⟨a, b, c, d⟩ = true := by simp [rightB, h1, h2, h3, h4]
theorem right_parts {p : P4} (h : rightB p = true) : inR p.src 0 15 = true ∧ inR p.dst 0 15 = true ∧ inR p.sport 0 7 = true ∧ inR p.dport 0 7 = true := by
  simp only [rightB, Bool.and_eq_true] at h
  exact ⟨h.1.1.1, h.1.1.2, h.1.2, h.2⟩
theorem inR_of {x lo hi : Int} (h1 : lo ≤ x) (h2 : x ≤ hi) : inR x lo hi = true := by simp [inR, h1, h2]
structure GoodM (M : MemS) : Prop where
  o : ∀ a v, M.O a = some v → inR v.1 0 15 = true ∧ inR v.2 0 7 = true
  b : ∀ a v, M.B a = some v → inR v 0 15 = true
theorem GoodM.owner {M : MemS} (h : GoodM M) (k : PoK) {u : Int × Int} (hu : inR u.1 0 15 = true ∧ inR u.2 0 7 = true) : GoodM (M.learn (.owner k u)) :=
  ⟨fun a v hv => by
    simp only [MemS.learn] at hv
    by_cases e : a = k
    · rw [if_pos e] at hv; cases hv; exact hu
    · rw [if_neg e] at hv; exact h.o a v hv, h.b⟩
theorem GoodM.back {M : MemS} (h : GoodM M) (k : OfK) {u : Int} (hu : inR u 0 15 = true) : GoodM (M.learn (.back k u)) :=
  ⟨h.o, fun a v hv => by
    simp only [MemS.learn] at hv
    by_cases e : a = k
    · rw [if_pos e] at hv; cases hv; exact hu
    · rw [if_neg e] at hv; exact h.b a v hv⟩
theorem dev_addr {d : Dev} (h : DevOk d) (hk : d.kind = 4 ∨ d.kind = 5) : inR d.addr 0 15 = true := by
  have h1 := h.ar
  have h2 : addrB d.kind = true := by rcases hk with e | e <;> simp [addrB, e]
  rw [h2] at h1
  simp only [Bool.true_and, Bool.not_true, Bool.false_and, Bool.not_false, Bool.and_true, Bool.and_eq_true, Bool.not_not, decide_eq_true_eq] at h1
  exact inR_of h1.1.1 (by omega)
theorem dev_backs {d : Dev} (h : DevOk d) {b : Int} (hb : b ∈ d.backs) : inR b 0 15 = true := by
  have h2 := h.bb
  simp only [backsB, Bool.and_eq_true] at h2
  have := backsOk_mem _ _ _ h2.1 b hb
  exact inR_of this.1 (by omega)
theorem mineG_lt (M : MemS) (i : Int) (o : Int × Int) : ∀ (m k : Nat), mineG M i o m k < (k : Int) + m ∨ mineG M i o m k = -1
  | 0, k => Or.inr rfl
  | m + 1, k => by
    by_cases h : M.O (i, (k : Int)) = some o
    · have e : mineG M i o (m + 1) k = (k : Int) := by simp [mineG, h]
      left; rw [e]; omega
    · have e : mineG M i o (m + 1) k = mineG M i o m (k + 1) := by simp [mineG, h]
      rw [e]
      have := mineG_lt M i o m (k + 1)
      omega
theorem mineF_lt (M : MemS) (i : Int) (o : Int × Int) : mineF M i o < 8 := by
  have := mineG_lt M i o 8 0
  unfold mineF
  omega
theorem out_good {r : Dev} {M : MemS} {i y : Int} {p : P4} {ch : Int} (hd : DevOk r) (hM : GoodM M) (hp : rightB p = true) (h1 : (outS r M i y p ch).2.2 = 0) (h2 : (outS r M i y p ch).2.1 = true) : rightB (outS r M i y p ch).1.q = true ∧ GoodM (M.learn (outS r M i y p ch).1.kn) := by
  obtain ⟨p1, p2, p3, p4⟩ := right_parts hp
  unfold outS at h1 h2 ⊢
  by_cases k2 : r.kind = 2
  · rw [if_pos k2]; exact ⟨hp, hM⟩
  rw [if_neg k2] at h1 h2 ⊢
  by_cases k3 : r.kind = 3
  · rw [if_pos k3]
    by_cases y0 : y = 0
    · simp only [fireF, if_pos y0]; exact ⟨hp, ⟨hM.o, hM.b⟩⟩
    · simp only [fireF, if_neg y0]; exact ⟨hp, hM⟩
  rw [if_neg k3] at h1 h2 ⊢
  by_cases k4 : r.kind = 4
  · rw [if_pos k4] at h1 h2 ⊢
    have ha := dev_addr hd (Or.inl k4)
    unfold natH at h1 h2 ⊢
    by_cases y1 : y = 1
    · rw [if_pos y1] at h1 h2 ⊢
      by_cases hda : p.dst ≠ r.addr
      · rw [if_pos hda] at h2; cases h2
      · rw [if_neg hda] at h2 ⊢
        cases hO : M.O (i, p.dport) with
        | none => rw [hO] at h2; cases h2
        | some o =>
          have := hM.o _ _ hO
          exact ⟨right4 p1 this.1 p3 this.2, hM⟩
    · rw [if_neg y1] at h1 h2 ⊢
      by_cases hm : 0 ≤ mineF M i (p.src, p.sport)
      · rw [if_pos hm]
        have hm8 : mineF M i (p.src, p.sport) < 8 := by
          exact mineF_lt M i (p.src, p.sport)
        exact ⟨right4 ha p2 (inR_of hm (by omega)) p4, hM.owner _ ⟨p1, p3⟩⟩
      · rw [if_neg hm] at h1 h2 ⊢
        by_cases hc : ch < 0 ∨ 8 ≤ ch ∨ hasBit r.pool ch = false
        · rw [if_pos hc] at h2; cases h2
        · rw [if_neg hc] at h1 h2 ⊢
          by_cases hf : (M.O (i, ch)).isSome = true
          · rw [if_pos hf] at h2; cases h2
          · rw [if_neg hf]
            have c1 : ¬ ch < 0 := fun e => hc (Or.inl e)
            have c2 : ¬ 8 ≤ ch := fun e => hc (Or.inr (Or.inl e))
            exact ⟨right4 ha p2 (inR_of (by omega) (by omega)) p4, hM.owner _ ⟨p1, p3⟩⟩
  rw [if_neg k4] at h1 h2 ⊢
  by_cases k5 : r.kind = 5
  · rw [if_pos k5] at h1 h2 ⊢
    have ha := dev_addr hd (Or.inr k5)
    unfold balF at h1 h2 ⊢
    by_cases y1 : y = 1
    · rw [if_pos y1]
      by_cases hb : M.B (i, ⟨p.dst, r.addr, p.dport, p.sport⟩) = some p.src
      · simp only [if_pos hb]; exact ⟨right4 ha p2 p3 p4, hM⟩
      · simp only [if_neg hb]; exact ⟨hp, hM⟩
    · rw [if_neg y1] at h1 h2 ⊢
      by_cases hda : p.dst ≠ r.addr
      · rw [if_pos hda]; exact ⟨hp, hM⟩
      · rw [if_neg hda] at h1 h2 ⊢
        cases hB : M.B (i, p) with
        | some b =>
          have := hM.b _ _ hB
          exact ⟨right4 p1 this p3 p4, hM.back _ this⟩
        | none =>
          rw [hB] at h1 h2
          cases hx : (if ch < 0 then none else r.backs[ch.toNat]?) with
          | none => rw [hx] at h1; cases h1
          | some b =>
            have hb : b ∈ r.backs := by
              by_cases c0 : ch < 0
              · rw [if_pos c0] at hx; cases hx
              · rw [if_neg c0] at hx; exact List.mem_of_getElem? hx
            have := dev_backs hd hb
            exact ⟨right4 p1 this p3 p4, hM.back _ this⟩
  · rw [if_neg k5] at h2; cases h2
theorem peer_place {ds : List Dev} {ls : List LinkV} (hE : netE ds ls = 0) {x z : Pl} (h : peerF ls x = some z) : placeB ds z = true := (netE_ok hE).pl z (peerF_some (netE_ok hE).nd h).2.1
theorem hand_good {ds : List Dev} {ls : List LinkV} {M : MemS} {i y : Int} {p : P4} {ch : Int} (hE : netE ds ls = 0) (hM : GoodM M) : GoodM (M.learn (handS ds ls M i y p ch).kn) ∧ ((handS ds ls M i y p ch).e = 0 → rightB (handS ds ls M i y p ch).q = true ∧ placeB ds (handS ds ls M i y p ch).to = true) := by
  unfold handS
  by_cases h1 : placeB ds (i, y) = false
  · rw [if_pos h1]; exact ⟨hM, fun e => absurd e (by simp [HandS.bad])⟩
  rw [if_neg h1]
  by_cases h2 : rightB p = false
  · rw [if_pos h2]; exact ⟨hM, fun e => absurd e (by simp [HandS.bad])⟩
  rw [if_neg h2]
  cases hr : ds[i.toNat]? with
  | none => exact ⟨hM, fun e => absurd e (by simp [HandS.bad])⟩
  | some r =>
    show GoodM (M.learn (goS ls i (outS r M i y p ch)).kn) ∧ ((goS ls i (outS r M i y p ch)).e = 0 → rightB (goS ls i (outS r M i y p ch)).q = true ∧ placeB ds (goS ls i (outS r M i y p ch)).to = true)
    have hd := net_devs_ok hE r (List.mem_of_getElem? hr)
    have hg := out_good (i := i) (y := y) (ch := ch) hd hM (by simpa using h2)
    unfold goS
    by_cases e1 : (outS r M i y p ch).2.2 ≠ 0
    · rw [if_pos e1]; exact ⟨hM, fun e => absurd e e1⟩
    · rw [if_neg e1]
      cases hpe : peerF ls (i, (outS r M i y p ch).1.port) with
      | none => exact ⟨hM, fun e => absurd e (by simp [HandS.bad])⟩
      | some z =>
        cases h3 : (outS r M i y p ch).2.1
        · simp only [Bool.false_eq_true, if_false]; exact ⟨hM, fun e => absurd e (by simp [HandS.bad])⟩
        · simp only [if_true]
          have q := hg (by simpa using e1) h3
          exact ⟨q.2, fun _ => ⟨q.1, peer_place hE hpe⟩⟩
theorem come_good {ds : List Dev} {S : List ArrV} {x : ArrV} (h : ∀ x ∈ S, rightB x.p = true ∧ placeB ds (x.d, x.y) = true) (hx : rightB x.p = true ∧ placeB ds (x.d, x.y) = true) : ∀ z ∈ comeS S x, rightB z.p = true ∧ placeB ds (z.d, z.y) = true := by
  unfold comeS
  intro z hz
  split at hz
  · exact h z hz
  · rcases List.mem_append.1 hz with hz | hz
    · exact h z hz
    · rw [List.mem_singleton.1 hz]; exact hx
theorem come_nodup {S : List ArrV} {x : ArrV} (h : S.Nodup) : (comeS S x).Nodup := by
  unfold comeS
  split
  · exact h
  · rename_i hx
    rw [List.nodup_append]
    exact ⟨h, by simp, fun a ha b hb e => hx (by rw [← List.mem_singleton.1 hb, ← e]; exact ha)⟩
theorem come_cases (S : List ArrV) (x : ArrV) : comeS S x = S ∨ comeS S x = S ++ [x] := by
  unfold comeS
  split
  · exact Or.inl rfl
  · exact Or.inr rfl
theorem forget_good {ds : List Dev} {M : MemS} {i : Int} {p : P4} {q : Int} (hM : GoodM M) : GoodM (forgetS ds M i p q).2 := by
  unfold forgetS
  repeat' split
  all_goals first
    | exact hM
    | exact ⟨fun a v hv => hM.o a v (by
        simp only [MemS.drop] at hv
        first | exact hv | (split at hv <;> first | exact hv | cases hv)), fun a v hv => hM.b a v (by
        simp only [MemS.drop] at hv
        first | exact hv | (split at hv <;> first | exact hv | cases hv))⟩
theorem do_good {ds : List Dev} {ls : List LinkV} {Z : WldS} (hE : netE ds ls = 0) (h : GoodW ds Z) (x : ActV) : GoodW ds (doS ds ls Z x).2 ∧ ((doS ds ls Z x).2.S = Z.S ∨ (doS ds ls Z x).1 = 0 ∧ ∃ y, (doS ds ls Z x).2.S = Z.S ++ [y]) := by
  unfold doS
  by_cases h1 : x.kind = 1
  · rw [if_pos h1]
    unfold injS
    by_cases i1 : inR x.dev 0 ((ds.length : Int) - 1) = false
    · rw [if_pos i1]; exact ⟨⟨h.o, h.b, h.s, h.nd⟩, Or.inl rfl⟩
    rw [if_neg i1]
    cases hr : ds[x.dev.toNat]? with
    | none => exact ⟨⟨h.o, h.b, h.s, h.nd⟩, Or.inl rfl⟩
    | some r =>
      simp only [injR]
      by_cases k1 : r.kind ≠ 1
      · rw [if_pos k1]; exact ⟨⟨h.o, h.b, h.s, h.nd⟩, Or.inl rfl⟩
      rw [if_neg k1]
      by_cases k2 : rightB x.p = false
      · rw [if_pos k2]; exact ⟨⟨h.o, h.b, h.s, h.nd⟩, Or.inl rfl⟩
      rw [if_neg k2]
      by_cases k3 : x.p.src ≠ r.addr
      · rw [if_pos k3]; exact ⟨⟨h.o, h.b, h.s, h.nd⟩, Or.inl rfl⟩
      rw [if_neg k3]
      cases hpe : peerF ls (x.dev, 0) with
      | none => exact ⟨⟨h.o, h.b, h.s, h.nd⟩, Or.inl rfl⟩
      | some z =>
        simp only
        refine ⟨⟨h.o, h.b, come_good h.s ⟨by simpa using k2, peer_place hE hpe⟩, come_nodup h.nd⟩, ?_⟩
        rcases come_cases Z.S ⟨z.1, z.2, x.p⟩ with e | e
        · exact Or.inl e
        · exact Or.inr ⟨trivial, _, e⟩
  rw [if_neg h1]
  by_cases h2 : x.kind = 2
  · rw [if_pos h2]
    by_cases h3 : (⟨x.dev, x.port, x.p⟩ : ArrV) ∈ Z.S
    · rw [if_pos h3]
      obtain ⟨g1, g2⟩ := hand_good (i := x.dev) (y := x.port) (p := x.p) (ch := x.ch) (ls := ls) hE ⟨h.o, h.b⟩
      generalize handS ds ls Z.M x.dev x.port x.p x.ch = H at g1 g2
      by_cases e : H.e = 0
      · have hc : H.come Z.S = comeS Z.S ⟨H.to.1, H.to.2, H.q⟩ := by rw [HandS.come, if_pos e]
        refine ⟨⟨g1.o, g1.b, ?_, ?_⟩, ?_⟩
        · show ∀ z ∈ H.come Z.S, _
          rw [hc]; exact come_good h.s (g2 e)
        · show (H.come Z.S).Nodup
          rw [hc]; exact come_nodup h.nd
        · show H.come Z.S = Z.S ∨ H.e = 0 ∧ ∃ y, H.come Z.S = Z.S ++ [y]
          rw [hc]
          rcases come_cases Z.S ⟨H.to.1, H.to.2, H.q⟩ with q | q
          · exact Or.inl q
          · exact Or.inr ⟨e, _, q⟩
      · have hc : H.come Z.S = Z.S := by rw [HandS.come, if_neg e]
        refine ⟨⟨g1.o, g1.b, ?_, ?_⟩, Or.inl hc⟩
        · show ∀ z ∈ H.come Z.S, _
          rw [hc]; exact h.s
        · show (H.come Z.S).Nodup
          rw [hc]; exact h.nd
    · rw [if_neg h3]; exact ⟨h, Or.inl rfl⟩
  rw [if_neg h2]
  by_cases h3 : x.kind = 3
  · rw [if_pos h3]
    have g := forget_good (ds := ds) (i := x.dev) (p := x.p) (q := x.ch) ⟨h.o, h.b⟩
    exact ⟨⟨g.o, g.b, h.s, h.nd⟩, Or.inl rfl⟩
  · rw [if_neg h3]; exact ⟨h, Or.inl rfl⟩
open Go.Maps Go.WideElems
def arDom (k : ArrV) : Prop := k.ok
theorem arVal_inj (a b : ArrV) (h : a.val = b.val) : a = b := by
  obtain ⟨a0, a1, a2, a3, a4, a5⟩ := a
  obtain ⟨b0, b1, b2, b3, b4, b5⟩ := b
  simp only [ArrV.val, Value.agg.injEq, Array.mk.injEq, List.cons.injEq, Value.int.injEq, true_and, and_true] at h
  obtain ⟨rfl, rfl, rfl, rfl, rfl, rfl⟩ := h
  rfl
theorem rowAr : decide (47 < Try.prog.types.size) = true := by kernel_rfl
theorem atAr : Try.prog.keyTypeAt 3 47 = true := by kernel_rfl
theorem keyArT : Try.prog.keyType 47 = true := by kernel_rfl
theorem cellsAr6 : Try.prog.cellsOf 47 = 6 := by kernel_rfl
theorem cellsArPl2 : Try.prog.cellsOf 45 = 2 := by kernel_rfl
theorem lawAr : Keyed Try.prog 47 := Keyed.of_law (deep_law_laid Try.laidOut (m := 3) (by omega) (of_decide_eq_true rowAr) atAr (by rw [Try.underlying47]))
theorem ar_key {P : Program} {k i l q : TypeId} {f1 f2 e1 e2 g1 g2 g3 g4 : Field} (hu : P.underlying k = some (.struct #[f1, f2])) (hl : P.underlying l = some (.struct #[e1, e2])) (hq : P.underlying q = some (.struct #[g1, g2, g3, g4])) (h1 : f1.type = l ∧ f1.offset = 0 ∧ f1.name ≠ "_") (h2 : f2.type = q ∧ f2.offset = 2 ∧ f2.name ≠ "_")
    (k1 : e1.type = i ∧ e1.offset = 0 ∧ e1.name ≠ "_") (k2 : e2.type = i ∧ e2.offset = 1 ∧ e2.name ≠ "_")
    (j1 : g1.type = i ∧ g1.offset = 0 ∧ g1.name ≠ "_") (j2 : g2.type = i ∧ g2.offset = 1 ∧ g2.name ≠ "_") (j3 : g3.type = i ∧ g3.offset = 2 ∧ g3.name ≠ "_") (j4 : g4.type = i ∧ g4.offset = 3 ∧ g4.name ≠ "_")
    (hi : P.underlying i = some (.int .i64)) (hk : P.keyType k = true) (hc : P.cellsOf k = 6) (hcl : P.cellsOf l = 2) (hcq : P.cellsOf q = 4) (hci : P.cellsOf i = 1) (hm : ∃ m, P.types.size = m + 2) (t : ArrV) (ht : arDom t) : ∃ kl, keyOf P k t.val = some kl := by
  obtain ⟨a, y, b, c, d, e⟩ := t
  have w1 := i64ok_wf ht.d
  have w0 := i64ok_wf ht.y
  have w2 := i64ok_wf ht.p.1
  have w3 := i64ok_wf ht.p.2.1
  have w4 := i64ok_wf ht.p.2.2.1
  have w5 := i64ok_wf ht.p.2.2.2
  simp only at w0 w1 w2 w3 w4 w5
  obtain ⟨m, hm⟩ := hm
  unfold keyOf
  rw [hu]
  have hall : ∀ (i : Nat) (x : i < 4), ¬([g1, g2, g3, g4][i]'x).name = "_" := fun i x => match i, x with
    | 0, _ => j1.2.2
    | 1, _ => j2.2.2
    | 2, _ => j3.2.2
    | 3, _ => j4.2.2
  have hall2 : ∀ (i : Nat) (x : i < 2), ¬([e1, e2][i]'x).name = "_" := fun i x => match i, x with
    | 0, _ => k1.2.2
    | 1, _ => k2.2.2
  simp [hall, hall2, hk, Value.formed, hu, hl, hq, ArrV.val, hc, hcl, hcq, Value.cells, hm, Program.keyLits, hci, hi, w0, w1, w2, w3, w4, w5, h1, h2, k1, k2, j1, j2, j3, j4]
theorem arKeys : KeysAny Try.prog 47 ArrV.val arDom :=
  ⟨lawAr, ar_key Try.underlying47 Try.underlying45 Try.underlying38 ⟨rfl, rfl, by decide⟩ ⟨rfl, rfl, by decide⟩ ⟨rfl, rfl, by decide⟩ ⟨rfl, rfl, by decide⟩ ⟨rfl, rfl, by decide⟩ ⟨rfl, rfl, by decide⟩ ⟨rfl, rfl, by decide⟩ ⟨rfl, rfl, by decide⟩ Try.underlying3 keyArT cellsAr6 cellsArPl2 Try.cellsPacket cellsI types_succ2, arVal_inj⟩
end Go.Proofs.Ytifkacnoiocebaa
namespace Go.Proofs.Ytifkacnoiocebaa
open Go.Maps Go.RowKit
theorem BX.beside {W w w' : World} {L : List (Nat × Array Value)} {p : Nat → Prop} (h : BX W L w) (hn : Near p w.heap.size w w') (ha : ∀ x ∈ L, ¬ p x.1) (hlo : ∀ j, p j → W.heap.size ≤ j) : BX W L w' :=
  ⟨((Near.of_below (p := p) h.bl).trans (hn.mono h.bl.size)).below (Nat.le_refl _) hlo, fun x hx => ⟨(h.bx x hx).1.near hn (h.bx x hx).2 (ha x hx), Nat.lt_of_lt_of_le (h.bx x hx).2 hn.size⟩⟩
section
variable {W w w' : World} {L : List (Nat × Array Value)} {ga : Nat} {na : NetV} {fa oa ba gb : Nat} {nb : NetV} {fb ob bb : Nat} {MA MB MA' MB' : MemS} {k k' : Nat}
end
theorem cells8 {w : World} {N : Nat} {a b c d e f g h : Int} (q : BoxV w N #[.int .i64 a, .int .i64 b, .int .i64 c, .int .i64 d, .int .i64 e, .int .i64 f, .int .i64 g, .int .i64 h]) : w.cell? ⟨N, 0, none⟩ = some (.int .i64 a) ∧ w.cell? ⟨N, 1, none⟩ = some (.int .i64 b) ∧ w.cell? ⟨N, 2, none⟩ = some (.int .i64 c) ∧ w.cell? ⟨N, 3, none⟩ = some (.int .i64 d) ∧ w.cell? ⟨N, 4, none⟩ = some (.int .i64 e) ∧ w.cell? ⟨N, 5, none⟩ = some (.int .i64 f) ∧ w.cell? ⟨N, 6, none⟩ = some (.int .i64 g) ∧ w.cell? ⟨N, 7, none⟩ = some (.int .i64 h) :=
  ⟨q.1 0 _ rfl, q.1 1 _ rfl, q.1 2 _ rfl, q.1 3 _ rfl, q.1 4 _ rfl, q.1 5 _ rfl, q.1 6 _ rfl, q.1 7 _ rfl⟩
end Go.Proofs.Ytifkacnoiocebaa
namespace Go.Proofs.Ytifkacnoiocebaa
open Go.RowKit
section
variable {p : Nat → Prop} {w w' : World} {B B' n : Nat} {A : Option Addr}
theorem StayOn.of_near {q : Nat → Prop} (hn : Near q w.heap.size w w') : StayOn (fun k => ¬ q k) w w' := fun a v hp hv => (World.cell?_of_block (hn.block a.block (cell_lt hv) hp)).trans hv
theorem SlAt.stay0 {α : Type} {cells : α → List Value} {s : Nat} {l : List α} (h : SlAt cells s w B A n l) (hs : StayOn p w w') (hp : 0 < n → ∀ a, A = some a → p a.block) (hB : B ≤ B') : SlAt cells s w' B' A n l :=
  ⟨h.1, fun h0 => by
    obtain ⟨b, o, e, hb, hg⟩ := h.2 h0
    exact ⟨b, o, e, by omega, fun k r hr j v hv => hs _ _ (show p b from hp h0 _ e) (hg k r hr j v hv)⟩⟩
theorem IntsAt.stay0 {l : List Int} (h : IntsAt w B A n l) (hs : StayOn p w w') (hp : 0 < n → ∀ a, A = some a → p a.block) (hB : B ≤ B') : IntsAt w' B' A n l :=
  ⟨h.1, h.2.1, fun h0 => by
    obtain ⟨b, o, e, hb, hg⟩ := h.2.2 h0
    exact ⟨b, o, e, by omega, fun k x hx => hs _ _ (show p b from hp h0 _ e) (hg k x hx)⟩⟩
theorem RulesAt.stay0 {l : List RuleV} (h : RulesAt w B A n l) (hs : StayOn p w w') (hp : 0 < n → ∀ a, A = some a → p a.block) (hB : B ≤ B') : RulesAt w' B' A n l :=
  (h.sl.stay0 hs hp hB).rules h.2.1
structure DevOn0 (p : Nat → Prop) (d : DevV) : Prop where
  b : 0 < d.bn → ∀ a, d.bA = some a → p a.block
  r : 0 < d.rn → ∀ a, d.rA = some a → p a.block
  t : 0 < d.tn → ∀ a, d.tA = some a → p a.block
theorem DevOn0.weak {q : Nat → Prop} {d : DevV} (h : DevOn0 p d) (hq : ∀ k, p k → q k) : DevOn0 q d := ⟨fun z a e => hq _ (h.b z a e), fun z a e => hq _ (h.r z a e), fun z a e => hq _ (h.t z a e)⟩
structure NetOn0 (p : Nat → Prop) (n : NetV) : Prop where
  d : 0 < n.dn → ∀ a, n.dA = some a → p a.block
  l : 0 < n.ln → ∀ a, n.lA = some a → p a.block
  o : ∀ x ∈ n.ds, DevOn0 p x
theorem NetOn0.weak {q : Nat → Prop} {n : NetV} (h : NetOn0 p n) (hq : ∀ k, p k → q k) : NetOn0 q n := ⟨fun z a e => hq _ (h.d z a e), fun z a e => hq _ (h.l z a e), fun x hx => (h.o x hx).weak hq⟩
theorem DevAt.stay0 {d : DevV} (h : DevAt w B d) (hs : StayOn p w w') (hp : DevOn0 p d) (hB : B ≤ B') : DevAt w' B' d :=
  ⟨h.nm, h.kd, h.ad, h.pl, h.bs.stay0 hs hp.b hB, h.rs.stay0 hs hp.r hB, h.ts.stay0 hs hp.t hB, h.tok, h.cb, h.cr, h.ct⟩
theorem NetAt.stay0 {m : NetV} (h : NetAt w B m) (hs : StayOn p w w') (ho : NetOn0 p m) (hB : B ≤ B') : NetAt w' B' m :=
  { ds := h.ds.stay0 hs ho.d hB, dok := fun d hm => (h.dok d hm).stay0 hs (ho.o d hm) hB, ls := h.ls.stay0 hs ho.l hB, lok := h.lok, cd := h.cd, cl := h.cl }
theorem NetAt.on {m : NetV} {K : Nat} (h : NetAt w B m) (ho : NetOn K m) : NetOn0 (fun k => K ≤ k ∧ k < B) m where
  d z a e := ⟨ho.d a e, by obtain ⟨b, o, e2, hb, _⟩ := h.ds.2 z; rw [e] at e2; cases e2; exact hb⟩
  l z a e := ⟨ho.l a e, by obtain ⟨b, o, e2, hb, _⟩ := h.ls.2 z; rw [e] at e2; cases e2; exact hb⟩
  o x hx := ⟨fun z a e => ⟨(ho.o x hx).b a e, by obtain ⟨b, o, e2, hb, _⟩ := (h.dok x hx).bs.2.2 z; rw [e] at e2; cases e2; exact hb⟩,
    fun z a e => ⟨(ho.o x hx).r a e, by obtain ⟨b, o, e2, hb, _⟩ := (h.dok x hx).rs.sl.2 z; rw [e] at e2; cases e2; exact hb⟩,
    fun z a e => ⟨(ho.o x hx).t a e, by obtain ⟨b, o, e2, hb, _⟩ := (h.dok x hx).ts.2 z; rw [e] at e2; cases e2; exact hb⟩⟩
theorem MemAt.apart {g : Nat} {m : NetV} {f o b : Nat} {M : MemS} {k : Nat} {q : Nat → Prop} (h : MemAt w g m f o b M k) (hn : Near q w.heap.size w w') (hg : ¬ q g) (h3 : ∀ j, Is3 f o b j → ¬ q j) (ho : NetOn0 (fun j => ¬ q j) m) : MemAt w' g m f o b M k := by
  have st := StayOn.of_near hn
  exact ⟨st _ _ hg h.c0, st _ _ hg h.c1, st _ _ hg h.c2, st _ _ hg h.c3, st _ _ hg h.c4, h.net.stay0 st ho hn.size,
    h.mf.same (hn.block f h.flt (h3 f (Or.inl rfl))), h.mo.same (hn.block o h.olt (h3 o (Or.inr (Or.inl rfl)))), h.mb.same (hn.block b h.blt (h3 b (Or.inr (Or.inr rfl)))), h.nfo, h.nfb, h.nob, h.lf, h.lo, h.lb, h.oo, h.ob⟩
end
section
variable {W w w' : World} {LB : List (Nat × Array Value)} {ga : Nat} {na : NetV} {fa oa ba : Nat} {M M' : MemS} {k k' g : Nat} {n : NetV} {A A' : Option Addr} {c c' : Nat} {L L' : List FactV}
end
open Go.Maps
def knownV (S : List ArrV) : ArrV → Option Value := fun a => if a ∈ S then some (.bool true) else none
theorem knownV_put (S : List ArrV) (x : ArrV) : putM (knownV S) x (.bool true) = knownV (S ++ [x]) := by
  funext a
  simp only [putM, knownV, List.mem_append, List.mem_singleton]
  by_cases h : a = x <;> simp [h]
def Tn (g km f o b : Nat) (A : Option Addr) (j : Nat) : Prop := j = g ∨ j = km ∨ Is3 f o b j ∨ A.map (·.block) = some j
def OwnB (W w : World) (F : Nat → Prop) : Prop := ∀ j, F j → W.heap.size ≤ j ∧ j < w.heap.size
structure WorldAt (W w : World) (F : Nat → Prop) (g : Nat) (no : NetV) (gm : Nat) (nm : NetV) (f o b km : Nat) (A : Option Addr) (c : Nat) (Z : WldS) (k : Nat) : Prop where
  c0 : w.cell? ⟨g, 0, none⟩ = some (.slice no.dA no.dn no.dc)
  c1 : w.cell? ⟨g, 1, none⟩ = some (.slice no.lA no.ln no.lc)
  c2 : w.cell? ⟨g, 2, none⟩ = some (.pointer (some ⟨gm, 0, none⟩))
  c3 : w.cell? ⟨g, 3, none⟩ = some (.slice A Z.S.length c)
  c4 : w.cell? ⟨g, 4, none⟩ = some (.map (some km))
  fz : w.frozen? ⟨g, 3, none⟩ = false
  own : w.ownsRow 0 47 6 (.slice A Z.S.length c) Z.S.length (Z.S.flatMap ArrV.cells)
  net : NetAt w w.heap.size no
  mem : MemAt w gm nm f o b Z.M k
  kn : MapIs Try.prog 47 ArrV.val arDom w km (knownV Z.S)
  fo : OwnB W w F
  fg : F g
  fm : F gm
  fk : F km
  f3 : ∀ j, Is3 f o b j → F j
  fa : ∀ j, A.map (·.block) = some j → F j
  gk : g ≠ km
  mt : ¬ Tn g km f o b A gm
  g3 : ∀ j, Is3 f o b j → j ≠ g ∧ j ≠ km
  ga : ∀ j, A.map (·.block) = some j → j ≠ g ∧ j ≠ km ∧ ¬ Is3 f o b j
  on : NetOn0 (fun j => j < W.heap.size ∨ (F j ∧ ¬ Tn g km f o b A j)) no
  om : NetOn0 (fun j => j < W.heap.size ∨ (F j ∧ ¬ Tn g km f o b A j)) nm
  lk : Z.S.length ≤ k
theorem OwnB.near {W w w' : World} {F q : Nat → Prop} {B : Nat} (h : OwnB W w F) (hn : Near q B w w') : OwnB W w' F := fun j hj => ⟨(h j hj).1, Nat.lt_of_lt_of_le (h j hj).2 hn.size⟩
theorem OwnB.more {W w w' : World} {F : Nat → Prop} (h : OwnB W w F) (hs : w.heap.size ≤ w'.heap.size) (hW : W.heap.size ≤ w.heap.size) : OwnB W w' (fun j => F j ∨ (w.heap.size ≤ j ∧ j < w'.heap.size)) := fun j hj => by
  rcases hj with e | e
  · have := h j e; omega
  · omega
theorem near_grown {w w' : World} {r : Option Nat} (hg : w.grownBy w' r) : Near (fun k => r = some k) w.heap.size w w' := ⟨hg.os, hg.tape, hg.output, hg.size, fun k hk hp => hg.block k hk (fun e => hp e.symm)⟩
theorem near_set (w : World) (g j : Nat) (v : Value) : Near (fun k => k = g) w.heap.size w (w.setCell ⟨g, j, none⟩ v) := ⟨rfl, rfl, rfl, by simp [World.setCell], fun k _ hp => Below.heap_setCell _ _ _ k hp⟩
section
variable {W w w' : World} {F F' q : Nat → Prop} {g : Nat} {no : NetV} {gm : Nat} {nm : NetV} {f o b km : Nat} {A : Option Addr} {c : Nat} {Z : WldS} {k k' : Nat}
theorem WorldAt.stay (h : WorldAt W w F g no gm nm f o b km A c Z k) (hn : Near q w.heap.size w w') (hq : ∀ j, q j → W.heap.size ≤ j ∧ ¬ F j) : WorldAt W w' F g no gm nm f o b km A c Z k := by
  have nq : ∀ j, F j → ¬ q j := fun j hj e => (hq j e).2 hj
  have hc : ∀ j, w'.cell? ⟨g, j, none⟩ = w.cell? ⟨g, j, none⟩ := fun j => hn.cell (a := ⟨g, j, none⟩) (h.fo g h.fg).2 (nq g h.fg)
  have hw : ∀ j, (j < W.heap.size ∨ (F j ∧ ¬ Tn g km f o b A j)) → ¬ q j := fun j e hj => by
    rcases e with e | e
    · have := (hq j hj).1; omega
    · exact nq j e.1 hj
  exact ⟨(hc 0).trans h.c0, (hc 1).trans h.c1, (hc 2).trans h.c2, (hc 3).trans h.c3, (hc 4).trans h.c4, (hn.frozen (a := ⟨g, 3, none⟩) (h.fo g h.fg).2 (nq g h.fg)).trans h.fz,
    own_same h.own (fun j hj => hn.block j (h.own.lt j hj).2 (nq j (h.fa j (by rw [row_blk] at hj; exact hj)))), h.net.stay0 (StayOn.of_near hn) (h.on.weak hw) hn.size,
    h.mem.apart hn (nq gm h.fm) (fun j hj => nq j (h.f3 j hj)) (h.om.weak hw), h.kn.same (hn.block km (h.fo km h.fk).2 (nq km h.fk)), h.fo.near hn,
    h.fg, h.fm, h.fk, h.f3, h.fa, h.gk, h.mt, h.g3, h.ga, h.on, h.om, h.lk⟩
theorem WorldAt.below (h : WorldAt W w F g no gm nm f o b km A c Z k) (hb : Below w.heap.size w w') : WorldAt W w' F g no gm nm f o b km A c Z k :=
  h.stay (q := fun _ => False) (Near.of_below hb) (fun _ e => e.elim)
theorem WorldAt.up (h : WorldAt W w F g no gm nm f o b km A c Z k) (hk : k ≤ k') : WorldAt W w F g no gm nm f o b km A c Z k' := { h with mem := h.mem.more hk, lk := Nat.le_trans h.lk hk }
theorem WorldAt.hand {M' : MemS} (h : WorldAt W w F g no gm nm f o b km A c Z k) (hm : MemAt w' gm nm f o b M' k') (hn : Near (Is3 f o b) w.heap.size w w') (hk : k ≤ k') : WorldAt W w' F g no gm nm f o b km A c ⟨M', Z.S⟩ k' := by
  have nq : ¬ Is3 f o b g := fun e => (h.g3 g e).1 rfl
  have hc : ∀ j, w'.cell? ⟨g, j, none⟩ = w.cell? ⟨g, j, none⟩ := fun j => hn.cell (a := ⟨g, j, none⟩) (h.fo g h.fg).2 nq
  have hw : ∀ j, (j < W.heap.size ∨ (F j ∧ ¬ Tn g km f o b A j)) → ¬ Is3 f o b j := fun j e hj => by
    rcases e with e | e
    · have := (h.fo j (h.f3 j hj)).1; omega
    · exact e.2 (Or.inr (Or.inr (Or.inl hj)))
  exact ⟨(hc 0).trans h.c0, (hc 1).trans h.c1, (hc 2).trans h.c2, (hc 3).trans h.c3, (hc 4).trans h.c4, (hn.frozen (a := ⟨g, 3, none⟩) (h.fo g h.fg).2 nq).trans h.fz,
    own_same h.own (fun j hj => hn.block j (h.own.lt j hj).2 (h.ga j (by rw [row_blk] at hj; exact hj)).2.2), h.net.stay0 (StayOn.of_near hn) (h.on.weak hw) hn.size,
    hm, h.kn.same (hn.block km (h.fo km h.fk).2 (fun e => (h.g3 km e).2 rfl)), h.fo.near hn,
    h.fg, h.fm, h.fk, h.f3, h.fa, h.gk, h.mt, h.g3, h.ga, h.on, h.om, Nat.le_trans h.lk hk⟩
theorem WorldAt.come (h : WorldAt W w F g no gm nm f o b km A c Z k) {x : ArrV} (hk : Z.S.length + 1 ≤ k) {w2 w5 : World} {A5 : Option Addr} {c5 : Nat} (hn : Near (fun j => j = km) w.heap.size w w2) (hm : MapIs Try.prog 47 ArrV.val arDom w2 km (putM (knownV Z.S) x (.bool true)))
    (hown : w5.ownsRow 0 47 6 (.slice A5 (Z.S.length + 1) c5) (Z.S.length + 1) (Z.S.flatMap ArrV.cells ++ x.cells)) (hg : w2.grownBy w5 (Value.slice A Z.S.length c).ownBlock) (hat : (Value.slice A5 (Z.S.length + 1) c5).ownBlock = (Value.slice A Z.S.length c).ownBlock ∨ (Value.slice A5 (Z.S.length + 1) c5).ownBlock = some w2.heap.size) :
    WorldAt W (w5.setCell ⟨g, 3, none⟩ (.slice A5 (Z.S.length + 1) c5)) (fun j => F j ∨ (w.heap.size ≤ j ∧ j < (w5.setCell ⟨g, 3, none⟩ (.slice A5 (Z.S.length + 1) c5)).heap.size)) g no gm nm f o b km A5 c5 ⟨Z.M, Z.S ++ [x]⟩ k ∧ Near F w.heap.size w (w5.setCell ⟨g, 3, none⟩ (.slice A5 (Z.S.length + 1) c5)) := by
  rw [row_blk] at hg hat
  rw [row_blk] at hat
  have n5 := near_grown hg
  have n6 := near_set w5 g 3 (.slice A5 (Z.S.length + 1) c5)
  generalize hv : w5.setCell ⟨g, 3, none⟩ (.slice A5 (Z.S.length + 1) c5) = w6 at *
  have s2 := hn.size
  have s5 := n5.size
  have s6 := n6.size
  have hgl := (h.fo g h.fg).2
  have hkl := (h.fo km h.fk).2
  have hW : W.heap.size ≤ w.heap.size := by have := (h.fo g h.fg).1; omega
  have gA : A.map (·.block) ≠ some g := fun e => (h.ga g e).1 rfl
  have kA : A.map (·.block) ≠ some km := fun e => (h.ga km e).2.1 rfl
  have nn : Near (fun j => j = g ∨ j = km ∨ A.map (·.block) = some j) w.heap.size w w6 :=
    ((hn.weak (fun j e => Or.inr (Or.inl e))).trans ((n5.mono s2).weak (fun j e => Or.inr (Or.inr e)))).trans ((n6.mono (by omega)).weak (fun j e => Or.inl e))
  have cc5 : ∀ j, w5.cell? ⟨g, j, none⟩ = w.cell? ⟨g, j, none⟩ := fun j => (n5.cell (a := ⟨g, j, none⟩) (by show g < _; omega) gA).trans (hn.cell (a := ⟨g, j, none⟩) hgl h.gk)
  have c6 : ∀ j, j ≠ 3 → w6.cell? ⟨g, j, none⟩ = w.cell? ⟨g, j, none⟩ := fun j hj => by
    rw [← hv, World.cell?_setCell_other _ _ _ _ (by simp [hj])]; exact cc5 j
  have b5 : ∀ j, A5.map (·.block) = some j → A.map (·.block) = some j ∨ j = w2.heap.size := fun j hj => by
    rcases hat with e | e
    · rw [hj] at e; exact Or.inl e.symm
    · rw [hj] at e; cases e; exact Or.inr rfl
  have t3 : ∀ j, Is3 f o b j → j < w.heap.size := fun j hj => (h.fo j (h.f3 j hj)).2
  have t5 : ∀ j, j < w.heap.size → Tn g km f o b A5 j → Tn g km f o b A j := fun j hj e => by
    rcases e with e | e | e | e
    · exact Or.inl e
    · exact Or.inr (Or.inl e)
    · exact Or.inr (Or.inr (Or.inl e))
    · rcases b5 j e with e | e
      · exact Or.inr (Or.inr (Or.inr e))
      · omega
  have hw : ∀ j, (j < W.heap.size ∨ (F j ∧ ¬ Tn g km f o b A j)) → ¬ (j = g ∨ j = km ∨ A.map (·.block) = some j) := fun j e hj => by
    have hF : F j := by
      rcases hj with rfl | rfl | e2
      · exact h.fg
      · exact h.fk
      · exact h.fa j e2
    rcases e with e | e
    · have := (h.fo j hF).1; omega
    · refine e.2 ?_
      rcases hj with e2 | e2 | e2
      · exact Or.inl e2
      · exact Or.inr (Or.inl e2)
      · exact Or.inr (Or.inr (Or.inr e2))
  have hw2 : ∀ j, (j < W.heap.size ∨ (F j ∧ ¬ Tn g km f o b A j)) → (j < W.heap.size ∨ ((F j ∨ (w.heap.size ≤ j ∧ j < w6.heap.size)) ∧ ¬ Tn g km f o b A5 j)) := fun j e => by
    rcases e with e | e
    · exact Or.inl e
    · exact Or.inr ⟨Or.inl e.1, fun t => e.2 (t5 j (h.fo j e.1).2 t)⟩
  have l1 : (Z.S ++ [x]).length = Z.S.length + 1 := by simp
  have l2 : (Z.S ++ [x]).flatMap ArrV.cells = Z.S.flatMap ArrV.cells ++ x.cells := by simp
  refine ⟨⟨(c6 0 (by decide)).trans h.c0, (c6 1 (by decide)).trans h.c1, (c6 2 (by decide)).trans h.c2, ?_, (c6 4 (by decide)).trans h.c4, ?_, ?_, h.net.stay0 (StayOn.of_near nn) (h.on.weak hw) nn.size, ?_, ?_, h.fo.more nn.size hW, Or.inl h.fg, Or.inl h.fm, Or.inl h.fk, fun j e => Or.inl (h.f3 j e), ?_, h.gk, ?_, h.g3, ?_, h.on.weak hw2, h.om.weak hw2, by rw [l1]; exact hk⟩, nn.weak (fun j e => ?_)⟩
  · show w6.cell? ⟨g, 3, none⟩ = some (.slice A5 (Z.S ++ [x]).length _)
    rw [l1, ← hv]
    have := World.cell?_setCell_same w5 ⟨g, 3, none⟩ (.slice A5 (Z.S.length + 1) c5) ((cc5 3).trans h.c3)
    simpa using this
  · rw [← hv, World.frozen?_setCell]
    exact ((n5.frozen (a := ⟨g, 3, none⟩) (by show g < _; omega) gA).trans (hn.frozen (a := ⟨g, 3, none⟩) hgl h.gk)).trans h.fz
  · show w6.ownsRow 0 _ 6 (.slice A5 (Z.S ++ [x]).length _) (Z.S ++ [x]).length ((Z.S ++ [x]).flatMap ArrV.cells)
    rw [l1, l2, ← hv]
    exact own_setCell hown (fun j hj => by
      rw [row_blk] at hj
      show j ≠ g
      rcases b5 j hj with e | e
      · exact (h.ga j e).1
      · omega) _
  · exact h.mem.apart nn (fun e => h.mt (by
      rcases e with e | e | e
      · exact Or.inl e
      · exact Or.inr (Or.inl e)
      · exact Or.inr (Or.inr (Or.inr e)))) (fun j hj e => by
      rcases e with e | e | e
      · exact (h.g3 j hj).1 e
      · exact (h.g3 j hj).2 e
      · exact (h.ga j e).2.2 hj) (h.om.weak hw)
  · have e1 : w6.heap[km]? = w2.heap[km]? := (n6.block km (by omega) (fun e => h.gk e.symm)).trans (n5.block km (by omega) kA)
    have := hm.same e1
    rw [knownV_put] at this
    exact this
  · intro j e
    rcases b5 j e with e | e
    · exact Or.inl (h.fa j e)
    · refine Or.inr ⟨by omega, ?_⟩
      have hl := (hown.lt j (by rw [row_blk]; assumption)).2
      omega
  · exact fun e => h.mt (t5 gm (h.fo gm h.fm).2 e)
  · intro j e
    rcases b5 j e with e | e
    · exact h.ga j e
    · exact ⟨by omega, by omega, fun e3 => by have := t3 j e3; omega⟩
  · rcases e with rfl | rfl | e
    · exact h.fg
    · exact h.fk
    · exact h.fa j e
end
section
variable {W w w' : World} {F F' q : Nat → Prop} {gt g : Nat} {n : NetV} {A : Option Addr} {c : Nat} {A2 : Option Addr} {c2 : Nat} {T : TS}
end
end Go.Proofs.Ytifkacnoiocebaa
namespace Go.Proofs.Ytifkacnoiocebaa
open Go.ChangeAt Go.ChangeShapes Go.RowKit Go.WideShapes
theorem Try.infoArrival : (Try.prog.info? 47).map (fun i => (i.zero, i.size, i.bytes)) = some (some (.agg #[.int .i64 0, .int .i64 0, .int .i64 0, .int .i64 0, .int .i64 0, .int .i64 0]), 6, 48) := by kernel_rfl
theorem cloneArr_walk (l : List ArrV) (A : Option Addr) (n c : Nat) (W : World) (hn : n ≤ 1048576) (hl : SlAt ArrV.cells 6 W W.heap.size A n l) :
    Calls Try.prog 35 #[.slice A n c] W fun e W' =>
      ∃ v, e = .returned v ∧ W'.ownsRow W.heap.size 47 6 v n (l.flatMap ArrV.cells) ∧ Below W.heap.size W W' := by
  obtain ⟨i0, hi0, hz0, hz1, hz2⟩ := info_parts Try.infoArrival
  rcases A with _ | ad
  · have hn0 : n = 0 := by
      rcases Nat.eq_zero_or_pos n with h | h
      · exact h
      · obtain ⟨b, o, e, _⟩ := hl.2 h; cases e
    subst hn0
    have : l = [] := List.eq_nil_of_length_eq_zero hl.1
    subst this
    have heq := fun w => Lib.run_eql_slice_nil (P := Try.prog) w _ _ none 0 c 0 0 Try.underlying42
    go_enter Try.func35, Try.ntmps35
    go_wp2
    go_ret
    exact ⟨_, rfl, World.ownsRow_nil _ _ _ _, Below.refl _ _⟩
  · have HR := hide (hl.reads ArrV.len (by omega))
    clear hl
    have heq := fun w => Lib.run_eql_slice_nil (P := Try.prog) w _ _ (some ad) n c 0 0 Try.underlying42
    go_enter Try.func35, Try.ntmps35
    go_wp2_with (at_builtin; refine wpList_append_any _ rfl (.tmp 5) (.tmp 6) 42 rfl W.heap.size 47 i0 _ 6 48 Try.underlying42 hi0 hz0 hz1 hz2 rfl (by omega) (.slice (some ⟨W.heap.size, 0, none⟩) 0 0) 0 [] rfl (World.ownsRow_lit _ #[] 0 (Nat.le_refl _) (by decide) rfl) W.heap.size (some ad) n c _ rfl (HR.out.alloc (Nat.le_refl _) _) (flat_one ArrV.one l) (by simp only [maxLen]; omega) (by omega) (by simp) ?_; intro v1 w1 hown1 hg1 hat1)
    go_ret
    refine ⟨v1, rfl, by simpa using hown1, ((Below.refl _ _).alloc (Nat.le_refl _) _).grown hg1 (by simp) (fun k hk => ?_)⟩
    simp [Value.ownBlock] at hk
    omega
theorem cloneDev_walk (l : List DevV) (A : Option Addr) (n c : Nat) (W : World) (hn : n ≤ 1048576) (hl : SlAt DevV.cells 7 W W.heap.size A n l) :
    Calls Try.prog 22 #[.slice A n c] W fun e W' =>
      ∃ v, e = .returned v ∧ W'.ownsRow W.heap.size 61 7 v n (l.flatMap DevV.cells) ∧ Below W.heap.size W W' := by
  obtain ⟨i0, hi0, hz0, hz1, hz2⟩ := info_parts Try.infoDevice
  rcases A with _ | ad
  · have hn0 : n = 0 := by
      rcases Nat.eq_zero_or_pos n with h | h
      · exact h
      · obtain ⟨b, o, e, _⟩ := hl.2 h; cases e
    subst hn0
    have : l = [] := List.eq_nil_of_length_eq_zero hl.1
    subst this
    have heq := fun w => Lib.run_eql_slice_nil (P := Try.prog) w _ _ none 0 c 0 0 Try.underlying22
    go_enter Try.func22, Try.ntmps22
    go_wp2
    go_ret
    exact ⟨_, rfl, World.ownsRow_nil _ _ _ _, Below.refl _ _⟩
  · have HR := hide (hl.reads DevV.len (by omega))
    clear hl
    have heq := fun w => Lib.run_eql_slice_nil (P := Try.prog) w _ _ (some ad) n c 0 0 Try.underlying22
    go_enter Try.func22, Try.ntmps22
    go_wp2_with (at_builtin; refine wpList_append_any _ rfl (.tmp 5) (.tmp 6) 22 rfl W.heap.size 61 i0 _ 7 112 Try.underlying22 hi0 hz0 hz1 hz2 rfl (by omega) (.slice (some ⟨W.heap.size, 0, none⟩) 0 0) 0 [] rfl (World.ownsRow_lit _ #[] 0 (Nat.le_refl _) (by decide) rfl) W.heap.size (some ad) n c _ rfl (HR.out.alloc (Nat.le_refl _) _) (flat_one DevV.one l) (by simp only [maxLen]; omega) (by omega) (by simp) ?_; intro v1 w1 hown1 hg1 hat1)
    go_ret
    refine ⟨v1, rfl, by simpa using hown1, ((Below.refl _ _).alloc (Nat.le_refl _) _).grown hg1 (by simp) (fun k hk => ?_)⟩
    simp [Value.ownBlock] at hk
    omega
end Go.Proofs.Ytifkacnoiocebaa
