/- A part of the proof: Peer, Rd1, Rd2, DevOk. -/
import Derived.Test.YtifkacnoiocebaaGreatRs13
set_option linter.unusedVariables false
set_option linter.unusedSimpArgs false
set_option maxRecDepth 100000
set_option maxHeartbeats 8000000
namespace Go.Proofs.YtifkacnoiocebaaGreat
open Go.RowKit
theorem peer_nil (lA dA : Option Addr) (dn dc lc : Nat) (x y : Int) (W : World) :
    Calls Tryz.prog 85 #[.agg #[.slice dA dn dc, .slice lA 0 lc], .agg #[.int .i64 x, .int .i64 y]] W fun e W' => e = .returned (peerV none) ∧ Below W.heap.size W W' := by
  have HB := hide (fun o0 o1 o2 => show Below W.heap.size W (((W.alloc o0).alloc o1).alloc o2) from (((Below.refl _ _).alloc (Nat.le_refl _) _).alloc (by simp) _).alloc (by simp; omega) _)
  go_enter Tryz.func85, Tryz.ntmps85
  go_wp2
  refine wp_loop_rounds 1 ?_
  rw [rounds_succ]
  go_wp2
  refine bodyPost_ret (v := .tuple #[.agg #[.int .i64 0, .int .i64 0], .bool false]) (by simp [results, Tryz.results85, go_sem]) rfl ⟨rfl, ?_⟩
  first | exact HB.out _ _ _ | exact ((HB.out _ _ _).setCell (le2 _) _).setCell (le2 _) _
theorem peer_any (dA : Option Addr) (dn dc : Nat) (lA : Option Addr) (ln lc : Nat) (ls : List LinkV) (x y : Int) (W : World) (hn : ln ≤ 9223372036854775807) (hl : SlAt LinkV.cells 4 W W.heap.size lA ln ls) :
    Calls Tryz.prog 85 #[.agg #[.slice dA dn dc, .slice lA ln lc], .agg #[.int .i64 x, .int .i64 y]] W fun e W' => e = .returned (peerV (peerF ls (x, y))) ∧ Below W.heap.size W W' := by
  rcases Nat.eq_zero_or_pos ln with rfl | h0
  · have : ls = [] := List.eq_nil_of_length_eq_zero hl.1
    subst this
    exact peer_nil lA dA dn dc lc x y W
  · obtain ⟨b, o, rfl, _, _⟩ := hl.2 h0
    exact peer_walk ls (.slice dA dn dc) b o ln lc x y W hn hl h0 dA dn dc rfl
def endsOf (ls : List LinkV) : List Pl := ls.flatMap fun l => [l.e1, l.e2]
theorem takenB_false {ends : List Pl} {l : LinkV} (h : takenB ends l = false) : l.e1 ≠ l.e2 ∧ l.e1 ∉ ends ∧ l.e2 ∉ ends := by
  simp only [takenB, Bool.or_eq_false_iff, List.any_eq_false] at h
  refine ⟨fun e => ?_, fun hm => h.1.2 _ hm ((eqP_iff _ _).2 rfl), fun hm => h.2 _ hm ((eqP_iff _ _).2 rfl)⟩
  have := (eqP_iff l.e1 l.e2).2 e
  rw [h.1.1] at this
  cases this
theorem linksE_ok {ds : List Dev} : ∀ (ls : List LinkV) (ends : List Pl), ends.Nodup → (∀ x ∈ ends, placeB ds x = true) → linksE ds ends ls = 0 → (ends ++ endsOf ls).Nodup ∧ ∀ x ∈ ends ++ endsOf ls, placeB ds x = true := by
  intro ls
  induction ls with
  | nil => intro ends hn hp _; exact ⟨by simpa [endsOf] using hn, by simpa [endsOf] using hp⟩
  | cons l ls ih =>
    intro ends hn hp h
    simp only [linksE] at h
    by_cases h1 : placeB ds l.e1 = false
    · rw [if_pos h1] at h; cases h
    rw [if_neg h1] at h
    by_cases h2 : placeB ds l.e2 = false
    · rw [if_pos h2] at h; cases h
    rw [if_neg h2] at h
    cases h3 : takenB ends l
    case true => rw [h3] at h; simp at h
    rw [h3] at h
    obtain ⟨t1, t2, t3⟩ := takenB_false h3
    have h := ih (ends ++ [l.e1, l.e2]) (by
      rw [List.nodup_append]
      refine ⟨hn, by simp [t1], fun a ha b hb => ?_⟩
      simp only [List.mem_cons, List.not_mem_nil, or_false] at hb
      rcases hb with rfl | rfl
      · exact fun e => t2 (e ▸ ha)
      · exact fun e => t3 (e ▸ ha)) (by
      intro x hx
      simp only [List.mem_append, List.mem_cons, List.not_mem_nil, or_false] at hx
      rcases hx with hx | rfl | rfl
      · exact hp x hx
      · simpa using h1
      · simpa using h2) (by simpa using h)
    have e : ends ++ [l.e1, l.e2] ++ endsOf ls = ends ++ endsOf (l :: ls) := by simp [endsOf]
    rw [e] at h
    exact h
structure NetOk (ds : List Dev) (ls : List LinkV) : Prop where
  dl : ds.length ≤ 10
  ll : ls.length ≤ 15
  nd : (endsOf ls).Nodup
  pl : ∀ x ∈ endsOf ls, placeB ds x = true
  de : devsE [] ds = 0
theorem netE_ok {ds : List Dev} {ls : List LinkV} (h : netE ds ls = 0) : NetOk ds ls := by
  unfold netE at h
  by_cases h1 : 10 < ds.length ∨ 15 < ls.length
  · rw [if_pos h1] at h; cases h
  rw [if_neg h1] at h
  by_cases h2 : devsE [] ds = 0
  · rw [if_pos h2] at h
    obtain ⟨a, b⟩ := linksE_ok ls [] (by simp) (by simp) h
    exact ⟨by omega, by omega, by simpa using a, by simpa using b, h2⟩
  · rw [if_neg h2] at h; exact absurd h h2
theorem mem_endsOf {ls : List LinkV} {x : Pl} : x ∈ endsOf ls ↔ ∃ l ∈ ls, x = l.e1 ∨ x = l.e2 := by
  simp [endsOf]
open Bdd Go.Maps
abbrev MapP (w : World) (b : Nat) (M : PoK → Option Value) : Prop := MapIs Tryz.prog 27 poVal poDom w b M
theorem got_bad (w : World) (B g : Nat) (A : St) (bl : List Nat) (mk : Nat) (h : MK w B g A bl mk 6) (f e2 : Nat) :
    Calls Tryz.prog 87 #[.pointer (some ⟨mk, 0, none⟩), .int .i64 (f : Int), .int .i64 (e2 : Int)] w fun en w' => en = .returned (.int .i64 0) ∧ w = w' := by
  have c0 : w.cell? ⟨mk, 0, none⟩ = some (.pointer (some ⟨g, 0, none⟩)) := h.bx.get 0 _ rfl
  have c1 : w.cell? ⟨mk, 1, none⟩ = some (.int .i64 6) := h.bx.get 1 _ rfl
  clear h
  go_enter Tryz.func87, Tryz.ntmps87
  go_wp2
  go_ret
  exact ⟨rfl, rfl⟩
section
variable {w w' : World} {B g mk e : Nat} {A A1 : St} {bl : List Nat} {P : Bdd.Fn → Prop}
theorem MK.called (h : MK w B g A bl mk e) (hsa : AS w' B g A1 (mk :: bl)) (hx : Ext A A1) (hk : KP B (mk :: bl) w w') : MK w' B g A1 bl mk e :=
  ⟨hsa, h.bx.kp hk (by simp), h.er.imp id (fun hf => ⟨hf.1, MK.full_ext hsa.inv hx hf.2⟩), h.ap⟩
theorem got_any (h : MK w B g A bl mk e) {F : Bdd.Fn} {en : Ending} (hq : AQ w B g A (mk :: bl) P F en w') :
    ∃ (A1 : St) (r e2 : Nat), en = .returned (.tuple #[.int .i64 (r : Int), .int .i64 (e2 : Int)]) ∧ Calls Tryz.prog 87 #[.pointer (some ⟨mk, 0, none⟩), .int .i64 (r : Int), .int .i64 (e2 : Int)] w' (MR w B g A bl mk e P F) ∧ MK w' B g A1 bl mk e ∧ KP B bl w w' := by
  obtain ⟨A1, hsa, hx, hn, hk, hres⟩ := hq
  have hm := h.called hsa hx hk
  have hk' : KP B bl w w' := hk.mono (fun j hj => List.mem_cons_of_mem _ hj)
  have key : ∀ (r e2 : Nat), (e2 = 0 ∨ (e2 = 6 ∧ A1.len = A1.most)) → (e2 = 0 → IsF A1 r F) → Calls Tryz.prog 87 #[.pointer (some ⟨mk, 0, none⟩), .int .i64 (r : Int), .int .i64 (e2 : Int)] w' (MR w B g A bl mk e P F) := by
    intro r e2 he2 hF
    rcases h.er with rfl | ⟨rfl, hf⟩
    · exact (got_walk w' B g A1 bl mk hm r e2 he2).mono fun en w2 hg => MR.of_got hx hn hk' hF hg
    · refine (got_bad w' B g A1 bl mk hm r e2).mono fun en w2 hg => ?_
      obtain ⟨rfl, rfl⟩ := hg
      exact ⟨A1, 6, 0, rfl, hm, hx, hn, hk', fun h0 => by cases h0⟩
  rcases hres with ⟨r, rfl, hisf⟩ | ⟨rfl, hfull⟩
  · exact ⟨A1, r, 0, rfl, key r 0 (.inl rfl) (fun _ => hisf), hm, hk'⟩
  · exact ⟨A1, 0, 6, rfl, key 0 6 (.inr ⟨rfl, hfull⟩) (fun h0 => by cases h0), hm, hk'⟩
end
def peerKs (ls : List LinkV) : List Pl := endsOf ls
structure RD (w : World) (B g : Nat) (A : St) (bl : List Nat) (mk e rd : Nat) (n : NetV) (wmV : Value) (nm : Nat) (Mn : PoK → Option Value) (Sn : Pl → Bdd.Fn) : Prop where
  m : MK w B g A (rd :: nm :: bl) mk e
  bx : Bx w rd #[.pointer (some ⟨mk, 0, none⟩), .slice n.dA n.dn n.dc, .slice n.lA n.ln n.lc, wmV, .map (some nm)] 75
  mn : MapP w nm Mn
  ints : Ints Mn
  keys : ∀ x, (Mn x).isSome = true → x ∈ peerKs n.ls
  sn : e = 0 → ∀ x, IsF A (numAt Mn x) (Sn x)
  ne : rd ≠ nm ∧ rd ∉ bl ∧ nm ∉ bl
section
variable {w w' : World} {B g mk e rd nm : Nat} {A A' : St} {bl : List Nat} {n : NetV} {wmV : Value} {Mn : PoK → Option Value} {Sn : Pl → Bdd.Fn} {P : Bdd.Fn → Prop}
theorem RD.below (h : RD w B g A bl mk e rd n wmV nm Mn Sn) (hb : RowKit.Below w.heap.size w w') : RD w' B g A bl mk e rd n wmV nm Mn Sn :=
  ⟨h.m.below hb, h.bx.below hb, h.mn.same (hb.block nm h.mn.lt), h.ints, h.keys, h.sn, h.ne⟩
theorem RD.inv (h : RD w B g A bl mk e rd n wmV nm Mn Sn) : Inv A := h.m.inv
theorem RD.kp (h : RD w B g A bl mk e rd n wmV nm Mn Sn) (hb : RowKit.Below w.heap.size w w') : KP B bl w w' := (h.m.kp hb).mono (fun j hj => by simp [hj])
theorem RD.step (h : RD w B g A bl mk e rd n wmV nm Mn Sn) {F : Bdd.Fn} {en : Ending} (hr : MR w B g A (rd :: nm :: bl) mk e P F en w') :
    ∃ (A2 : St) (e2 r : Nat), en = .returned (.int .i64 (r : Int)) ∧ RD w' B g A2 bl mk e2 rd n wmV nm Mn Sn ∧ Ext A A2 ∧ NwP P A A2 ∧ KP B bl w w' ∧ (e2 = 0 → e = 0 ∧ IsF A2 r F) := by
  obtain ⟨A2, e2, r, h1, h2, h3, h4, h5, h6⟩ := hr
  exact ⟨A2, e2, r, h1, ⟨h2, h.bx.kp h5 (by simp), h.mn.same (h5.same nm (by simp)), h.ints, h.keys, fun he x => (h.sn (h6 he).1 x).ext h.inv h3, h.ne⟩, h3, h4, h5.mono (fun j hj => by simp [hj]), h6⟩
theorem RD.store (h : RD w B g A bl mk e rd n wmV nm Mn Sn) {y : Pl} {r : Nat} {F : Bdd.Fn} (hy : poDom y) (hk : y ∈ peerKs n.ls) (hF : e = 0 → IsF A r F) (hL : (peerKs n.ls).length ≤ 1000) :
    ∃ w', (Instr.mapUpdate 73 (.map (some nm)) (poVal y) (.int .i64 (r : Int))).run Tryz.prog w = .ok () w' ∧ RD w' B g A bl mk e rd n wmV nm (putM Mn y (.int .i64 (r : Int))) (fun x => if y = x then F else Sn x) ∧ KP B bl w w' := by
  obtain ⟨w', hrun, r1, r2⟩ := h.mn.storeA placeKeys (peerKs n.ls) (by unfold maxLen; omega) (fun x _ hx => h.keys x hx) Tryz.underlying73 hy (.int .i64 (r : Int))
  have hg := r2.grown
  obtain ⟨n1, n2, n3⟩ := h.ne
  have hlts := h.m.sa.lt
  have hmk := h.m.ap
  simp only [List.mem_cons, not_or] at hmk
  have hblk : ∀ j, j < w.heap.size → j ≠ nm → w'.heap[j]? = w.heap[j]? := fun j hj hn => hg.block j hj (fun e => by cases e; exact hn rfl)
  have hlow : RowKit.Below B w w' := ⟨hg.os, hg.tape, hg.output, hg.size, fun i hi => hblk i (by have := h.m.sa.hB; omega) (by have := (hlts nm (by simp)).1; omega)⟩
  refine ⟨w', hrun, ⟨⟨h.m.sa.grown hg (fun j hj => by cases hj; simp), h.m.bx.same (hblk mk (hlts mk (by simp)).2 hmk.2.1), h.m.er, h.m.ap⟩, h.bx.same (hblk rd (hlts rd (by simp)).2 n1), r1, ?_, ?_, ?_, h.ne⟩, ⟨hlow, fun j hj => hblk j (hlts j (by simp [hj])).2 (fun e => n3 (e ▸ hj))⟩⟩
  · intro x v hx
    by_cases e : x = y
    · subst e
      rw [putM_same] at hx
      cases hx
      exact ⟨hy, r, rfl⟩
    · rw [putM_other Mn _ e] at hx
      exact h.ints x v hx
  · intro x hx
    by_cases e : x = y
    · subst e; exact hk
    · rw [putM_other Mn _ e] at hx
      exact h.keys x hx
  · intro he x
    by_cases e : x = y
    · subst e
      rw [numAt_some (putM_same Mn x _), if_pos rfl]
      exact hF he
    · rw [if_neg (fun e' => e e'.symm), show numAt (putM Mn y (.int .i64 (r : Int))) x = numAt Mn x from by unfold numAt; rw [putM_other Mn _ e]]
      exact h.sn he x
end
def sendS (ls : List LinkV) (x : Pl) (F : Bdd.Fn) (Sn : Pl → Bdd.Fn) : Pl → Bdd.Fn := match peerF ls x with
  | some y => fun z => if y = z then orF (Sn y) F else Sn z
  | none => Sn
def SendPC (P : Bdd.Fn → Prop) (ls : List LinkV) (x : Pl) (F : Bdd.Fn) (Sn : Pl → Bdd.Fn) : Prop := ∀ y, peerF ls x = some y → PC P (orF (Sn y) F)
def RDP (w : World) (B g : Nat) (A : St) (bl : List Nat) (mk e rd : Nat) (n : NetV) (wmV : Value) (nm : Nat) (P : Bdd.Fn → Prop) (Sn' : Pl → Bdd.Fn) (w' : World) : Prop :=
  ∃ (A2 : St) (e2 : Nat) (Mn2 : PoK → Option Value), RD w' B g A2 bl mk e2 rd n wmV nm Mn2 Sn' ∧ Ext A A2 ∧ NwP P A A2 ∧ KP B bl w w' ∧ (e2 = 0 → e = 0)
structure LinksOk (ls : List LinkV) : Prop where
  len : ls.length ≤ 15
  dom : ∀ x ∈ endsOf ls, poDom x
theorem peer_mem {ls : List LinkV} {x y : Pl} (h : peerF ls x = some y) : y ∈ endsOf ls := by
  induction ls with
  | nil => simp [peerF] at h
  | cons l ls ih =>
    simp only [peerF] at h
    rw [mem_endsOf]
    by_cases h1 : eqP x l.e1 = true
    · rw [if_pos h1] at h
      cases h
      exact ⟨l, by simp, .inr rfl⟩
    · rw [if_neg h1] at h
      by_cases h2 : eqP x l.e2 = true
      · rw [if_pos h2] at h
        cases h
        exact ⟨l, by simp, .inl rfl⟩
      · rw [if_neg h2] at h
        obtain ⟨l', hl, he⟩ := mem_endsOf.1 (ih h)
        exact ⟨l', by simp [hl], he⟩
theorem ends_len (ls : List LinkV) : (endsOf ls).length = 2 * ls.length := by
  induction ls with
  | nil => rfl
  | cons l ls ih =>
    have e : endsOf (l :: ls) = [l.e1, l.e2] ++ endsOf ls := rfl
    rw [e, List.length_append, ih]
    simp
    omega
theorem LinksOk.few {ls : List LinkV} (h : LinksOk ls) : (peerKs ls).length ≤ 1000 := by
  have := ends_len ls
  have := h.len
  unfold peerKs
  omega
theorem send_walk (w : World) (B g : Nat) (A : St) (bl : List Nat) (mk e rd : Nat) (n : NetV) (wmV : Value) (nm : Nat) (Mn : PoK → Option Value) (Sn : Pl → Bdd.Fn) (h : RD w B g A bl mk e rd n wmV nm Mn Sn) (hl : SlAt LinkV.cells 4 w B n.lA n.ln n.ls) (hlk : LinksOk n.ls)
    (P : Bdd.Fn → Prop) (i port : Int) (f : Nat) (F : Bdd.Fn) (hf : e = 0 → IsF A f F) (hP : SendPC P n.ls (i, port) F Sn) :
    Calls Tryz.prog 55 #[.pointer (some ⟨rd, 0, none⟩), .int .i64 i, .int .i64 port, .int .i64 (f : Int)] w fun en w' => en = .returned (.tuple #[]) ∧ RDP w B g A bl mk e rd n wmV nm P (sendS n.ls (i, port) F Sn) w' := by
  have hn9 : n.ln ≤ 9223372036854775807 := by have := hlk.len; have := hl.1; omega
  have HPE := hide (peer_any n.dA n.dn n.dc n.lA n.ln n.lc n.ls i port w hn9 (hl.below (RowKit.Below.refl _ _) (Nat.le_of_lt h.m.sa.hB)))
  have H := hide h
  have HF := hide hf
  have HP := hide hP
  have HLK := hide hlk
  have r1 : w.cell? ⟨rd, 1, none⟩ = some (.slice n.dA n.dn n.dc) := h.bx.get 1 _ rfl
  have r2 : w.cell? ⟨rd, 2, none⟩ = some (.slice n.lA n.ln n.lc) := h.bx.get 2 _ rfl
  clear h hl hlk hf hP
  obtain ⟨PE, hPE⟩ : ∃ PE, peerF n.ls (i, port) = PE := ⟨_, rfl⟩
  rw [hPE] at HPE
  have HE := hide hPE
  clear hPE
  go_enter Tryz.func55, Tryz.ntmps55
  go_wp2_with fail
  refine HPE.out.mono ?_
  clear HPE r1 r2
  rintro en w1 ⟨rfl, hb⟩
  have H1 := hide (H.out.below hb)
  have HK1 := hide (H.out.kp hb)
  clear hb H
  cases PE with
  | none =>
    simp only [peerV]
    have hb := below_alloc2 w1 (.cells #[.int .i64 0, .int .i64 0] 27)
    have HX := hide (show RDP w B g A bl mk e rd n wmV nm P (sendS n.ls (i, port) F Sn) (w1.alloc (.cells #[.int .i64 0, .int .i64 0] 27)) from
      ⟨A, e, Mn, by unfold sendS; rw [HE.out]; exact H1.out.below hb, Ext.refl H1.out.inv, NwP.refl _ _, HK1.out.trans (H1.out.kp hb), id⟩)
    clear hb
    go_wp2
    go_end0
    exact ⟨rfl, HX.out⟩
  | some y =>
    obtain ⟨y1, y2⟩ := y
    simp only [peerV]
    have hb := below_alloc2 w1 (.cells #[.int .i64 y1, .int .i64 y2] 27)
    have hym := peer_mem HE.out
    have HYM := hide hym
    have HYD := hide (HLK.out.dom _ hym)
    have H2 := hide (show RD (w1.alloc (.cells #[.int .i64 y1, .int .i64 y2] 27)) B g A (w1.heap.size :: bl) mk e rd n wmV nm Mn Sn from
      ⟨⟨(H1.out.m.sa.alloc _).mono (fun j hj => by simp only [List.mem_cons] at hj ⊢; rcases hj with a | a | a | a | a <;> simp [a]), H1.out.m.bx.below hb, H1.out.m.er, fun hj => by
        have := (H1.out.m.sa.lt mk (by simp)).2
        have h9 := H1.out.m.ap
        simp only [List.mem_cons, not_or] at hj h9
        rcases hj with a | a | a | a
        · exact h9.1 a
        · exact h9.2.1 a
        · omega
        · exact h9.2.2 a⟩, H1.out.bx.below hb, H1.out.mn.same (hb.block nm H1.out.mn.lt), H1.out.ints, H1.out.keys, H1.out.sn, H1.out.ne.1, fun hj => by
        rcases List.mem_cons.1 hj with a | a
        · have := H1.out.bx.lt; omega
        · exact H1.out.ne.2.1 a, fun hj => by
        rcases List.mem_cons.1 hj with a | a
        · have := H1.out.mn.lt; omega
        · exact H1.out.ne.2.2 a⟩)
    have HX2 := hide (Bx.new w1 #[.int .i64 y1, .int .i64 y2] 27)
    have HK2 := hide (HK1.out.trans (H1.out.kp hb))
    clear hym hb
    go_wp2_with fail
    clear H1 HK1
    generalize World.alloc w1 _ = w2 at *
    generalize w1.heap.size = N at *
    have HQ := hide (fun (w' : World) (A' : St) (e' : Nat) (S' : Pl → Bdd.Fn) (h : RD w' B g A' (N :: bl) mk e' rd n wmV nm Mn S') (hx : Bx w' N #[.int .i64 y1, .int .i64 y2] 27) => show (w'.cell? ⟨rd, 0, none⟩ = some (.pointer (some ⟨mk, 0, none⟩)) ∧ w'.cell? ⟨rd, 4, none⟩ = some (.map (some nm)) ∧ w'.cell? ⟨N, 0, none⟩ = some (.int .i64 y1) ∧ w'.cell? ⟨N, 1, none⟩ = some (.int .i64 y2)) ∧ (Instr.lookup 73 (.map (some nm)) (.agg #[.int .i64 y1, .int .i64 y2]) false).run Tryz.prog w' = .ok (.int .i64 ((numAt Mn (y1, y2) : Nat) : Int)) w' from
      ⟨⟨h.bx.get 0 _ rfl, h.bx.get 4 _ rfl, hx.get 0 _ rfl, hx.get 1 _ rfl⟩, MapIs.lookN h.mn h.ints y1 y2 HYD.out.1 HYD.out.2⟩)
    have HD := hide (H2.out.below (RowKit.Below.refl _ _).drew)
    have HXD := hide (HX2.out.below (RowKit.Below.refl _ _).drew)
    have HKD := hide (HK2.out.trans ((H2.out.kp (RowKit.Below.refl _ _).drew).mono (bl' := bl) (fun j hj => by simp [hj])))
    clear H2 HX2 HK2
    refine wp_region_E (fun w' => (w'.cell? ⟨rd, 0, none⟩ = some (.pointer (some ⟨mk, 0, none⟩)) ∧ w'.cell? ⟨rd, 4, none⟩ = some (.map (some nm)) ∧ w'.cell? ⟨N, 0, none⟩ = some (.int .i64 y1) ∧ w'.cell? ⟨N, 1, none⟩ = some (.int .i64 y2)) ∧ (Instr.lookup 73 (.map (some nm)) (.agg #[.int .i64 y1, .int .i64 y2]) false).run Tryz.prog w' = .ok (.int .i64 ((numAt Mn (y1, y2) : Nat) : Int)) w') 17 (by kernel_rfl) (HQ.out _ _ _ _ HD.out HXD.out) (fun hS => ?_)
    refine rP 0 hS ?_
    refine rP 1 hS ?_
    refine rP 2 hS ?_
    refine rL 3 [17] rfl hS (by intro w hSw; obtain ⟨⟨s0, s1, s2, s3⟩, s4⟩ := hSw; go_simp; try with_reducible rfl) ?_
    refine rL 4 [17] rfl hS (by intro w hSw; obtain ⟨⟨s0, s1, s2, s3⟩, s4⟩ := hSw; go_simp; try with_reducible rfl) ?_
    refine rP 5 hS ?_
    refine rP 6 hS ?_
    refine rP 7 hS ?_
    refine rL 8 [16, 17] rfl hS (by intro w hSw; obtain ⟨⟨s0, s1, s2, s3⟩, s4⟩ := hSw; go_simp; try with_reducible rfl) ?_
    refine rP 9 hS ?_
    refine rP 10 hS ?_
    refine rP 11 hS ?_
    refine rL 12 [14, 16, 17] rfl hS (by intro w hSw; obtain ⟨⟨s0, s1, s2, s3⟩, s4⟩ := hSw; go_simp; try with_reducible rfl) ?_
    refine rL 13 [14, 16, 17] rfl hS (by intro w hSw; obtain ⟨⟨s0, s1, s2, s3⟩, s4⟩ := hSw; go_simp; try with_reducible rfl) ?_
    refine rL 14 [16, 17] rfl hS (by intro w hSw; obtain ⟨⟨s0, s1, s2, s3⟩, s4⟩ := hSw; go_simp; try with_reducible rfl) ?_
    refine rP 15 hS ?_
    intro inv
    refine rO 16 inv fun K hK => ?_
    go_simp
    refine (mk_or w2.drew B g A (rd :: nm :: N :: bl) mk e HD.out.m (numAt Mn (y1, y2)) f (Sn (y1, y2)) F P (fun he => HD.out.sn he (y1, y2)) HF.out (HP.out _ HE.out)).mono ?_
    rintro en w3 hr
    obtain ⟨A3, e3, r3, rfl, hrd, hx, hnw, hkp, hF3⟩ := HD.out.step hr
    have HX3 := hide (HXD.out.kp hkp (by simp))
    have HR3 := hide hrd
    obtain ⟨w4, hrun, hst, hk4⟩ := hrd.store (y := (y1, y2)) (r := r3) (F := orF (Sn (y1, y2)) F) HYD.out HYM.out (fun he => (hF3 he).2) HLK.out.few
    simp only [poVal] at hrun
    have HFN := hide (show RDP w B g A bl mk e rd n wmV nm P (sendS n.ls (i, port) F Sn) w4 from
      ⟨A3, e3, _, by
        unfold sendS; rw [HE.out]
        exact ⟨⟨hst.m.sa.mono (fun j hj => by simp only [List.mem_cons] at hj ⊢; rcases hj with a | a | a | a <;> simp [a]), hst.m.bx, hst.m.er, fun hj => hst.m.ap (by simp only [List.mem_cons] at hj ⊢; rcases hj with a | a | a <;> simp [a])⟩, hst.bx, hst.mn, hst.ints, hst.keys, hst.sn, hst.ne.1, fun hj => hst.ne.2.1 (by simp [hj]), fun hj => hst.ne.2.2 (by simp [hj])⟩, hx, hnw, HKD.out.trans ((hkp.mono (fun j hj => by simp [hj])).trans (hk4.mono (fun j hj => by simp [hj]))), fun he => (hF3 he).1⟩)
    clear hr hrd hx hnw hkp hF3 hst hk4 hS HD HXD HKD
    have hS := HQ.out _ _ _ _ HR3.out HX3.out
    go_simp
    refine hK.out _ _ (fun _ => hS) ?_
    clear hK K hS inv
    intro inv
    try simp only [Act.put, nrmA, nrmB, nrmC]
    clear HQ HR3 HX3
    refine rT 17 inv fun K hK => ?_
    go_simp
    refine hK.out _ _ ?_
    clear hK K inv
    intro inv
    try simp only [Act.put, nrmA, nrmB, nrmC]
    refine rD ?_
    clear inv
    clear hrun
    go_wp2
    go_end0
    exact ⟨rfl, HFN.out⟩
structure WasOk (w : World) (A : St) (e : Nat) (bl : List Nat) (wm : Nat) (Mw : PoK → Option Value) (Sw : Pl → Bdd.Fn) : Prop where
  mem : wm ∈ bl
  m : MapP w wm Mw
  ints : Ints Mw
  sw : e = 0 → ∀ x, IsF A (numAt Mw x) (Sw x)
section
variable {w w' : World} {B e e2 wm : Nat} {A A2 : St} {bl : List Nat} {Mw : PoK → Option Value} {Sw : Pl → Bdd.Fn}
theorem WasOk.step (h : WasOk w A e bl wm Mw Sw) (i : Inv A) (hx : Ext A A2) (hk : KP B bl w w') (he : e2 = 0 → e = 0) : WasOk w' A2 e2 bl wm Mw Sw :=
  ⟨h.mem, h.m.same (hk.same wm h.mem), h.ints, fun h2 x => (h.sw (he h2) x).ext i hx⟩
theorem WasOk.below (h : WasOk w A e bl wm Mw Sw) (hb : RowKit.Below w.heap.size w w') : WasOk w' A e bl wm Mw Sw := ⟨h.mem, h.m.same (hb.block wm h.m.lt), h.ints, h.sw⟩
end
theorem at_walk (w : World) (rd wm : Nat) (Mw : PoK → Option Value) (hm : MapP w wm Mw) (hi : Ints Mw) (h3 : w.cell? ⟨rd, 3, none⟩ = some (.map (some wm))) (i port : Int) (hx : i64ok i) (hy : i64ok port) :
    Calls Tryz.prog 92 #[.pointer (some ⟨rd, 0, none⟩), .int .i64 i, .int .i64 port] w fun e w' => e = .returned (.int .i64 ((numAt Mw (i, port) : Nat) : Int)) ∧ w = w' := by
  have hlk := MapIs.lookN hm hi i port hx hy
  clear hm hi
  go_enter Tryz.func92, Tryz.ntmps92
  go_wp2
  go_ret
  exact ⟨rfl, rfl⟩
theorem open_walk (w : World) (B rd : Nat) (n : NetV) (hB : B ≤ w.heap.size) (hl : SlAt LinkV.cells 4 w B n.lA n.ln n.ls) (hlk : LinksOk n.ls) (r1 : w.cell? ⟨rd, 1, none⟩ = some (.slice n.dA n.dn n.dc)) (r2 : w.cell? ⟨rd, 2, none⟩ = some (.slice n.lA n.ln n.lc)) (i port : Int) :
    Calls Tryz.prog 94 #[.pointer (some ⟨rd, 0, none⟩), .int .i64 i, .int .i64 port] w fun e w' => e = .returned (.bool (peerF n.ls (i, port)).isSome) ∧ RowKit.Below w.heap.size w w' := by
  have hn9 : n.ln ≤ 9223372036854775807 := by have := hlk.len; have := hl.1; omega
  have HPE := hide (peer_any n.dA n.dn n.dc n.lA n.ln n.lc n.ls i port w hn9 (hl.below (RowKit.Below.refl _ _) hB))
  clear hl hlk
  generalize peerF n.ls (i, port) = PE at *
  go_enter Tryz.func94, Tryz.ntmps94
  go_wp2_with fail
  refine HPE.out.mono ?_
  clear HPE r1 r2
  rintro en w1 ⟨rfl, hb⟩
  have HB := hide hb
  clear hb
  cases PE with
  | none =>
    simp only [peerV]
    go_wp2
    go_ret
    exact ⟨rfl, HB.out.trans ((below_alloc2 w1 _).mono HB.out.size)⟩
  | some y =>
    obtain ⟨y1, y2⟩ := y
    simp only [peerV]
    go_wp2
    go_ret
    exact ⟨rfl, HB.out.trans ((below_alloc2 w1 _).mono HB.out.size)⟩
end Go.Proofs.YtifkacnoiocebaaGreat
namespace Go.Proofs.YtifkacnoiocebaaGreat
open Go.Maps Go.RowKit
theorem devsE_all : ∀ (l pre : List Dev), devsE pre l = 0 → ∀ d ∈ l, devE d = 0
  | [], _, _, d, hd => by cases hd
  | a :: t, pre, h, d, hd => by
    unfold devsE at h
    by_cases h1 : namedB a.name = false
    · rw [if_pos h1] at h; cases h
    rw [if_neg h1] at h
    by_cases h2 : (pre.any (fun x => nameEq x.name a.name)) = true
    · rw [if_pos h2] at h; cases h
    rw [if_neg h2] at h
    by_cases h3 : devE a = 0
    · rw [if_pos h3] at h
      rcases List.mem_cons.1 hd with rfl | hd
      · exact h3
      · exact devsE_all t _ h d hd
    · rw [if_neg h3] at h; exact absurd h h3
structure DevOk (d : Dev) : Prop where
  k1 : 1 ≤ d.kind
  k5 : d.kind ≤ 5
  ar : (!(addrB d.kind && !(decide (0 ≤ d.addr) && decide (d.addr < 16))) && !(!addrB d.kind && (d.addr != 0)) && !((d.pool != 0) != (d.kind == 4))) = true
  bl : d.backs.length ≤ 3
  bb : backsB d = true
  rl : d.rules.length ≤ 8
  tc : checkF d.routes = 0
  tl : d.routes.length ≤ 8
theorem devE_ok {d : Dev} (h : devE d = 0) : DevOk d := by
  unfold devE at h
  by_cases h1 : (decide (d.kind < 1) || decide (5 < d.kind)) = true
  · rw [if_pos h1] at h; cases h
  rw [if_neg h1] at h
  by_cases h2 : ((addrB d.kind && !(decide (0 ≤ d.addr) && decide (d.addr < 16))) || (!addrB d.kind && (d.addr != 0)) || ((d.pool != 0) != (d.kind == 4))) = true
  · rw [if_pos h2] at h; cases h
  rw [if_neg h2] at h
  by_cases h3 : decide (3 < d.backs.length) = true
  · rw [if_pos h3] at h; cases h
  rw [if_neg h3] at h
  by_cases h4 : (!backsB d) = true
  · rw [if_pos h4] at h; cases h
  rw [if_neg h4] at h
  by_cases h5 : ((decide (0 < d.rules.length) && (d.kind != 2) && (d.kind != 3)) || (decide (0 < d.routes.length) && (d.kind != 2))) = true
  · rw [if_pos h5] at h; cases h
  rw [if_neg h5] at h
  by_cases h6 : decide (8 < d.rules.length) = true
  · rw [if_pos h6] at h; cases h
  rw [if_neg h6] at h
  simp only [Bool.or_eq_true, decide_eq_true_eq, not_or] at h1
  have hl : d.routes.length ≤ 8 := by
    unfold checkF at h
    by_cases h7 : 8 < d.routes.length
    · rw [if_pos h7] at h; cases h
    · omega
  refine ⟨by omega, by omega, ?_, by simpa using h3, by simpa using h4, by simpa using h6, h, hl⟩
  revert h2
  cases (addrB d.kind && !(decide (0 ≤ d.addr) && decide (d.addr < 16))) <;> cases (!addrB d.kind && (d.addr != 0)) <;> cases ((d.pool != 0) != (d.kind == 4)) <;> simp
theorem net_devs_ok {ds : List Dev} {ls : List LinkV} (h : netE ds ls = 0) : ∀ d ∈ ds, DevOk d := fun d hd => devE_ok (devsE_all ds [] (netE_ok h).de d hd)
end Go.Proofs.YtifkacnoiocebaaGreat
