/- A part of the proof: WorldR, WorldL. -/
import Derived.Test.YthaiffjalgionaaWp36

set_option linter.unusedVariables false
set_option linter.unusedSimpArgs false
namespace Go.Proofs.Ythaiffjalgionaa
open Go.RowKit Go.Maps

def stS (ds : List Dev) (ls : List LinkV) (l : List ActV) : Nat → WS
  | 0 => ⟨MS.empty, []⟩
  | k + 1 => match l[k]? with
    | some x => (doS ds ls (stS ds ls l k) x).2
    | none => stS ds ls l k
def stT (ds : List Dev) (ls : List LinkV) (l : List ActV) : Nat → TS
  | 0 => ⟨[], []⟩
  | k + 1 => match l[k]? with
    | some x => (doT ds ls (stT ds ls l k) x).2
    | none => stT ds ls l k
def cdS (ds : List Dev) (ls : List LinkV) (l : List ActV) (k : Nat) : Int := match l[k]? with
  | some x => (doS ds ls (stS ds ls l k) x).1
  | none => 0
theorem stS_succ {ds : List Dev} {ls : List LinkV} {l : List ActV} {k : Nat} {x : ActV} (h : l[k]? = some x) : stS ds ls l (k + 1) = (doS ds ls (stS ds ls l k) x).2 := by simp [stS, h]
theorem stT_succ {ds : List Dev} {ls : List LinkV} {l : List ActV} {k : Nat} {x : ActV} (h : l[k]? = some x) : stT ds ls l (k + 1) = (doT ds ls (stT ds ls l k) x).2 := by simp [stT, h]
theorem cdS_at {ds : List Dev} {ls : List LinkV} {l : List ActV} {k : Nat} {x : ActV} (h : l[k]? = some x) : cdS ds ls l k = (doS ds ls (stS ds ls l k) x).1 := by simp [cdS, h]
theorem rel_at (ds : List Dev) (ls : List LinkV) (l : List ActV) : ∀ k, RelW ds (stS ds ls l k) (stT ds ls l k)
  | 0 => ⟨Rel.empty _, rfl⟩
  | k + 1 => by
    have h := rel_at ds ls l k
    cases hx : l[k]? with
    | none => simpa [stS, stT, hx] using h
    | some x => rw [stS_succ hx, stT_succ hx]; exact (rel_do h x).2
theorem cdT_at {ds : List Dev} {ls : List LinkV} {l : List ActV} {k : Nat} {x : ActV} (h : l[k]? = some x) : (doT ds ls (stT ds ls l k) x).1 = cdS ds ls l k := by
  rw [cdS_at h]; exact (rel_do (rel_at ds ls l k) x).1.symm
theorem good_at {ds : List Dev} {ls : List LinkV} (hE : netE ds ls = 0) (l : List ActV) : ∀ k, GoodW ds (stS ds ls l k)
  | 0 => ⟨fun a v h => by simp [stS, MS.empty] at h, fun a v h => by simp [stS, MS.empty] at h, fun x hx => by simp [stS] at hx, by simp [stS]⟩
  | k + 1 => by
    have h := good_at hE l k
    cases hx : l[k]? with
    | none => simpa [stS, hx] using h
    | some x => rw [stS_succ hx]; exact (do_good hE h x).1
theorem doT_len (ds : List Dev) (ls : List LinkV) (T : TS) (x : ActV) : (doT ds ls T x).2.L.length ≤ T.L.length + 1 := by
  unfold doT
  repeat' split
  · exact Nat.le_succ _
  · exact mindS_len _ _ _ _ _ _ _
  · exact Nat.le_succ _
  · exact Nat.le_trans (forgetM_len _ _ _ _ _) (Nat.le_succ _)
  · exact Nat.le_succ _
theorem stT_len (ds : List Dev) (ls : List LinkV) (l : List ActV) : ∀ k, (stT ds ls l k).L.length ≤ k
  | 0 => Nat.le_refl _
  | k + 1 => by
    have h := stT_len ds ls l k
    cases hx : l[k]? with
    | none => have e : stT ds ls l (k + 1) = stT ds ls l k := by simp [stT, hx]
              rw [e]; omega
    | some x =>
      rw [stT_succ hx]
      have := doT_len ds ls (stT ds ls l k) x
      omega

def WorldS (W w : World) (F : Nat → Prop) (g : Nat) (ds : List Dev) (ls : List LinkV) (Z : WS) (k : Nat) : Prop :=
  ∃ no gm nm f o b km A c, WorldAt W w F g no gm nm f o b km A c Z k ∧ no.devs = ds ∧ no.ls = ls ∧ nm.devs = ds ∧ nm.ls = ls
def TaleS (W w : World) (F : Nat → Prop) (gt0 : Nat) (n : NetV) (T : TS) : Prop := ∃ g A1 c1 A c, TaleAt W w F gt0 g n A1 c1 A c T
section
variable {W w w' : World} {F F' q : Nat → Prop} {g : Nat} {ds : List Dev} {ls : List LinkV} {Z : WS} {k k' : Nat} {gt0 : Nat} {n : NetV} {T : TS}
theorem WorldS.stay (h : WorldS W w F g ds ls Z k) (hn : Near q w.heap.size w w') (hq : ∀ j, q j → W.heap.size ≤ j ∧ ¬ F j) : WorldS W w' F g ds ls Z k := by
  obtain ⟨no, gm, nm, f, o, b, km, A, c, h1, h2⟩ := h
  exact ⟨no, gm, nm, f, o, b, km, A, c, h1.stay hn hq, h2⟩
theorem WorldS.below (h : WorldS W w F g ds ls Z k) (hb : Below w.heap.size w w') : WorldS W w' F g ds ls Z k :=
  h.stay (q := fun _ => False) (Near.of_below hb) (fun _ e => e.elim)
theorem WorldS.fo (h : WorldS W w F g ds ls Z k) : OwnB W w F := by
  obtain ⟨no, gm, nm, f, o, b, km, A, c, h1, h2⟩ := h
  exact h1.fo
theorem WorldS.lk (h : WorldS W w F g ds ls Z k) : Z.S.length ≤ k := by
  obtain ⟨no, gm, nm, f, o, b, km, A, c, h1, h2⟩ := h
  exact h1.lk
theorem TaleS.stay (h : TaleS W w F gt0 n T) (hn : Near q w.heap.size w w') (hq : ∀ j, q j → W.heap.size ≤ j ∧ ¬ F j) : TaleS W w' F gt0 n T := by
  obtain ⟨g, A1, c1, A, c, h1⟩ := h
  exact ⟨g, A1, c1, A, c, h1.stay hn hq⟩
theorem TaleS.below (h : TaleS W w F gt0 n T) (hb : Below w.heap.size w w') : TaleS W w' F gt0 n T :=
  h.stay (q := fun _ => False) (Near.of_below hb) (fun _ e => e.elim)
theorem TaleS.fo (h : TaleS W w F gt0 n T) : OwnB W w F := by
  obtain ⟨g, A1, c1, A, c, h1⟩ := h
  exact h1.fo
theorem TaleS.seen (h : TaleS W w F gt0 n T) : ∃ A c, w.cell? ⟨gt0, 1, none⟩ = some (.slice A T.S.length c) ∧ SlAt ArrV.cells 6 w w.heap.size A T.S.length T.S := by
  obtain ⟨g, A1, c1, A, c, h1⟩ := h
  exact ⟨A, c, h1.t1, own_sl ArrV.len h1.own rfl⟩
theorem worldDo_S (h : WorldS W w F g ds ls Z k) (hb0 : Below W.heap.size W w) (hE : netE ds ls = 0) (hG : GoodW ds Z) (x : ActV) (hx : x.ok) (hk : k < 100000) :
    Calls Try.prog 32 #[.pointer (some ⟨g, 0, none⟩), .agg #[.int .i64 x.kind, .int .i64 x.dev, .int .i64 x.port, .int .i64 x.p.src, .int .i64 x.p.dst, .int .i64 x.p.sport, .int .i64 x.p.dport, .int .i64 x.ch]] w fun e w' => e = .returned (.int .i64 (doS ds ls Z x).1) ∧ ∃ F', WorldS W w' F' g ds ls (doS ds ls Z x).2 (k + 1) ∧ Near F w.heap.size w w' ∧ ∀ j, F' j → F j ∨ w.heap.size ≤ j := by
  obtain ⟨no, gm, nm, f, o, b, km, A, c, h1, h2, h3, h4, h5⟩ := h
  refine (worldDo_walk h1 hb0 h2 h3 h4 h5 hE hG x hx hk).mono ?_
  rintro e w' ⟨he, A', c', F', hw, hn, hF⟩
  exact ⟨he, F', ⟨no, gm, nm, f, o, b, km, A', c', hw, h2, h3, h4, h5⟩, hn, hF⟩
theorem worldHas_S (h : WorldS W w F g ds ls Z k) (y : ArrV) (hy : y.ok) :
    Calls Try.prog 34 #[.pointer (some ⟨g, 0, none⟩), .agg #[.int .i64 y.d, .int .i64 y.y], .agg #[.int .i64 y.p.src, .int .i64 y.p.dst, .int .i64 y.p.sport, .int .i64 y.p.dport]] w fun e w' => e = .returned (.bool (decide (y ∈ Z.S))) ∧ Below w.heap.size w w' := by
  obtain ⟨no, gm, nm, f, o, b, km, A, c, h1, h2⟩ := h
  exact worldHas_walk h1 y hy
theorem seen_S (h : WorldS W w F g ds ls Z k) (hk : k < 100000) :
    Calls Try.prog 31 #[.pointer (some ⟨g, 0, none⟩)] w fun e w' => ∃ A' c', e = .returned (.slice A' Z.S.length c') ∧ Z.S.length ≤ c' ∧ w'.ownsRow w.heap.size 43 6 (.slice A' Z.S.length c') Z.S.length (Z.S.flatMap ArrV.cells) ∧ Below w.heap.size w w' := by
  obtain ⟨no, gm, nm, f, o, b, km, A, c, h1, h2⟩ := h
  exact seen_walk h1 hk
theorem taleDo_S (h : TaleS W w F gt0 n T) (hds : n.devs = ds) (hls : n.ls = ls) (hE : netE ds ls = 0) (x : ActV) (hx : x.ok) (hL : T.L.length ≤ 1000) (hl : T.S.length < 100000) :
    Calls Try.prog 37 #[.pointer (some ⟨gt0, 0, none⟩), .agg #[.int .i64 x.kind, .int .i64 x.dev, .int .i64 x.port, .int .i64 x.p.src, .int .i64 x.p.dst, .int .i64 x.p.sport, .int .i64 x.p.dport, .int .i64 x.ch]] w fun e w' => e = .returned (.int .i64 (doT ds ls T x).1) ∧ ∃ F', TaleS W w' F' gt0 n (doT ds ls T x).2 ∧ Near F w.heap.size w w' ∧ ∀ j, F' j → F j ∨ w.heap.size ≤ j := by
  obtain ⟨g, A1, c1, A, c, h1⟩ := h
  refine (taleDo_walk h1 hds hls hE x hx hL hl).mono ?_
  rintro e w' ⟨he, A1', c1', A', c', F', hw, hn, hF⟩
  exact ⟨he, F', ⟨g, A1', c1', A', c', hw⟩, hn, hF⟩
end
theorem worldNew_S (n : NetV) (W0 W : World) (h0 : W0.heap.size ≤ W.heap.size) (hn : NetAt W W.heap.size n) (hnn : NetOn0 (fun j => j < W0.heap.size) n) (hE : netE n.devs n.ls = 0) :
    Calls Try.prog 30 #[n.val] W fun e W' => ∃ g F, e = .returned (.tuple #[.pointer (some ⟨g, 0, none⟩), .int .i64 0]) ∧ WorldS W0 W' F g n.devs n.ls ⟨MS.empty, []⟩ 0 ∧ Below W.heap.size W W' ∧ ∀ j, F j → W.heap.size ≤ j := by
  refine (worldNew_ok n W0 W h0 hn hnn hE).mono ?_
  rintro e W' ⟨g, F, no, gm, nm, f, o, b, km, he, hw, ⟨h1, h2, h3, h4⟩, hb, hF⟩
  exact ⟨g, F, he, ⟨no, gm, nm, f, o, b, km, none, 0, hw, h1, h2, h3, h4⟩, hb, hF⟩
theorem net_on_below {w : World} {n : NetV} (h : NetAt w w.heap.size n) : NetOn0 (fun j => j < w.heap.size) n :=
  (h.on (K := 0) ⟨fun _ _ => Nat.zero_le _, fun _ _ => Nat.zero_le _, fun _ _ => ⟨fun _ _ => Nat.zero_le _, fun _ _ => Nat.zero_le _, fun _ _ => Nat.zero_le _⟩⟩).weak (fun j e => e.2)
set_option maxRecDepth 100000 in
set_option maxHeartbeats 4000000 in
theorem newTale_walk (n : NetV) (W0 W : World) (h0 : W0.heap.size ≤ W.heap.size) (hn : NetAt W W.heap.size n) (hnn : NetOn0 (fun j => j < W0.heap.size) n) :
    Calls Try.prog 36 #[n.val] W fun e W' => ∃ gt0 F, e = .returned (.pointer (some ⟨gt0, 0, none⟩)) ∧ TaleS W0 W' F gt0 n ⟨[], []⟩ ∧ Below W.heap.size W W' ∧ ∀ j, F j → W.heap.size ≤ j := by
  have HT := hide (show TaleAt W0 (((W.alloc (.cells #[.slice n.dA n.dn n.dc, .slice n.lA n.ln n.lc] 25)).alloc (.cells #[.slice n.dA n.dn n.dc, .slice n.lA n.ln n.lc, .slice none 0 0] 35)).alloc (.cells #[.pointer (some ⟨W.heap.size + 1, 0, none⟩), .slice none 0 0] 90)) (fun j => j = W.heap.size + 1 ∨ j = W.heap.size + 2) (W.heap.size + 2) (W.heap.size + 1) n none 0 none 0 ⟨[], []⟩ ∧ Below W.heap.size W (((W.alloc (.cells #[.slice n.dA n.dn n.dc, .slice n.lA n.ln n.lc] 25)).alloc (.cells #[.slice n.dA n.dn n.dc, .slice n.lA n.ln n.lc, .slice none 0 0] 35)).alloc (.cells #[.pointer (some ⟨W.heap.size + 1, 0, none⟩), .slice none 0 0] 90)) from by
    have hs1 : (W.alloc (.cells #[.slice n.dA n.dn n.dc, .slice n.lA n.ln n.lc] 25)).heap.size = W.heap.size + 1 := by simp
    have hs2 : ((W.alloc (.cells #[.slice n.dA n.dn n.dc, .slice n.lA n.ln n.lc] 25)).alloc (.cells #[.slice n.dA n.dn n.dc, .slice n.lA n.ln n.lc, .slice none 0 0] 35)).heap.size = W.heap.size + 2 := by simp
    have hs3 : (((W.alloc (.cells #[.slice n.dA n.dn n.dc, .slice n.lA n.ln n.lc] 25)).alloc (.cells #[.slice n.dA n.dn n.dc, .slice n.lA n.ln n.lc, .slice none 0 0] 35)).alloc (.cells #[.pointer (some ⟨W.heap.size + 1, 0, none⟩), .slice none 0 0] 90)).heap.size = W.heap.size + 3 := by simp
    have hn1 : NetAt (W.alloc (.cells #[.slice n.dA n.dn n.dc, .slice n.lA n.ln n.lc] 25)) (W.alloc (.cells #[.slice n.dA n.dn n.dc, .slice n.lA n.ln n.lc] 25)).heap.size n := hn.below (below_alloc W _) (by rw [hs1]; omega)
    have hm := MindAt.new hn1 35
    rw [hs1] at hm
    have hm3 := hm.below (below_alloc _ (.cells #[.pointer (some ⟨W.heap.size + 1, 0, none⟩), .slice none 0 0] 90))
    have hx := BoxV.new ((W.alloc (.cells #[.slice n.dA n.dn n.dc, .slice n.lA n.ln n.lc] 25)).alloc (.cells #[.slice n.dA n.dn n.dc, .slice n.lA n.ln n.lc, .slice none 0 0] 35)) #[.pointer (some ⟨W.heap.size + 1, 0, none⟩), .slice none 0 0] 90
    rw [hs2] at hx
    refine ⟨⟨hx.1 0 _ rfl, hx.1 1 _ rfl, hx.2 1, World.ownsRow_nil _ _ _ _, hm3, fun j e => ?_, Or.inr rfl, Or.inl rfl, fun j e => (by cases e), fun j e => (by cases e), (by omega), (fun e => by cases e), (fun e => by cases e), (fun e => by cases e), fun j e => (by cases e), hnn⟩, ?_⟩
    · rw [hs3]; rcases e with e | e <;> omega
    · exact (below_alloc W _).trans (((below_alloc _ _).mono (by rw [hs1]; omega)).trans ((below_alloc _ _).mono (by rw [hs2]; omega))))
  clear hn hnn
  show Calls _ _ #[.agg #[.slice n.dA n.dn n.dc, .slice n.lA n.ln n.lc]] W _
  go_enter Try.func36, Try.ntmps36
  go_wp2
  go_ret
  exact ⟨_, _, rfl, ⟨_, _, _, _, _, HT.out.1⟩, HT.out.2, fun j e => by rcases e with e | e <;> omega⟩
set_option maxRecDepth 100000 in
set_option maxHeartbeats 8000000 in
theorem worldRun_walk (n : NetV) (A0 : Option Addr) (nl c0 : Nat) (l : List ActV) (W : World) (hn : NetAt W W.heap.size n) (hE : netE n.devs n.ls = 0) (hl : SlAt ActV.cells 8 W W.heap.size A0 nl l) (hlo : ∀ r ∈ l, r.ok) (hnl : nl ≤ 2000) :
    Calls Try.prog 39 #[n.val, .slice A0 nl c0] W fun e W' => Below W.heap.size W W' ∧ ((∃ i, i < nl ∧ (∀ j, j < i → cdS n.devs n.ls l j = 0) ∧ cdS n.devs n.ls l i ≠ 0 ∧ e = .returned (.tuple #[.slice none 0 0, .int .i64 ((i : Int) + 1), .int .i64 (cdS n.devs n.ls l i)])) ∨
      ((∀ j, j < nl → cdS n.devs n.ls l j = 0) ∧ ∃ A' c', e = .returned (.tuple #[.slice A' (stS n.devs n.ls l nl).S.length c', .int .i64 (stS n.devs n.ls l nl).S.length, .int .i64 0]) ∧ SlAt ArrV.cells 6 W' W'.heap.size A' (stS n.devs n.ls l nl).S.length (stS n.devs n.ls l nl).S ∧ (∀ a, A' = some a → W.heap.size ≤ a.block ∧ a.block < W'.heap.size))) := by
  have HNW := hide (fun (w' : World) (hb : Below W.heap.size W w') => worldNew_S n W w' hb.size (hn.below hb hb.size) (net_on_below hn) hE)
  have HL := hide (fun (w' : World) (hb : Below W.heap.size W w') => hl.below hb hb.size)
  have HLN := hide hl.1
  have HLO := hide hlo
  have HGD := hide (good_at hE l)
  have HE := hide hE
  clear hn hE hl hlo
  show Calls _ _ #[.agg #[.slice n.dA n.dn n.dc, .slice n.lA n.ln n.lc], _] W _
  go_enter Try.func39, Try.ntmps39
  go_wp2_with fail
  have HB1 := hide (below_alloc W (.cells #[.slice n.dA n.dn n.dc, .slice n.lA n.ln n.lc] 25))
  generalize World.alloc W _ = W1 at *
  refine (HNW.out W1 HB1.out).mono ?_
  clear HNW
  rintro e w2 ⟨g, F, rfl, hw, hb, hF⟩
  have HB2 := hide (HB1.out.trans (hb.mono HB1.out.size))
  have HW2 := hide hw
  clear hw hb hF
  have d1 : decide ((2000 : Int) < (nl : Int)) = false := by simp; omega
  go_wp2_with fail
  clear d1
  -- LOOP
  go_loopw [25] (fun i wr => ∃ (k : Nat) (F : Nat → Prop), k ≤ nl ∧ i = .int .i64 k ∧ Hid (WorldS W wr F g n.devs n.ls (stS n.devs n.ls l k) k) ∧ Hid (Below W.heap.size W wr) ∧ Hid (∀ j, j < k → cdS n.devs n.ls l j = 0)) (fun i _ => nl - (intOf i).toNat)
  case atStart => exact ⟨0, F, Nat.zero_le _, rfl, HW2, HB2, hide (fun j hj => absurd hj (by omega))⟩
  case round =>
    clear HW2 HB2
    obtain ⟨k, F, hk, rfl, HW, HB, HC⟩ := hrel
    by_cases hlt : k < nl
    case neg =>
      obtain rfl : k = nl := by omega
      obtain ⟨Z, hZ⟩ : ∃ Z, stS n.devs n.ls l k = Z := ⟨_, rfl⟩
      rw [hZ] at HW
      have HZ := hide hZ
      clear hZ
      have HSE := hide (fun (w' : World) (hb : Below wr.heap.size wr w') => seen_S (HW.out.below hb) (by omega))
      obtain ⟨no, gm, nm, f, o, b, km, A, c, hw, _⟩ := HW.out
      have c3 := hw.c3
      have HC3 := hide hw
      clear hw
      go_wp2_with fail
      have HG := hide (Below.refl wr.heap.size wr)
      go_region_held3 (fun w' => w'.cell? ⟨g, 3, none⟩ = some (.slice A Z.S.length c)) (go_keep) ((go_at_call 31; refine (HSE.out _ (by first | exact HG.out.drew | exact HG.out)).mono ?_; rintro e wp ⟨A', c', rfl, hcc, hown, hb⟩; (first | have HG := hide (HG.out.drew.trans (hb.mono HG.out.drew.size)) | have HG := hide (HG.out.trans (hb.mono HG.out.size))); have HOW := hide hown; have HBW := hide hb; have c3 := (HC3.out.below HG.out).c3; clear hown hb))
      clear c3 HSE
      go_wp2
      go_ret3
      obtain ⟨_, _, e1, _, hsl, hal⟩ := SlAt.of_own ArrV.len HOW.out rfl
      cases e1
      have hbb := HB.out.trans (HG.out.mono HB.out.size)
      refine ⟨hbb, Or.inr ⟨HC.out, A', c', ?_, ?_, fun a ha => ⟨?_, ?_⟩⟩⟩
      · rw [HZ.out]; rfl
      · rw [HZ.out]; exact hsl
      · have := hal a ha; have := HB.out.size; have := HBW.out.size; simp at *; omega
      · exact (HOW.out.lt a.block (by rw [row_blk, ha]; rfl)).2
    obtain ⟨x, hx⟩ : ∃ x, l[k]? = some x := ⟨_, List.getElem?_eq_getElem (by have := HLN.out; omega)⟩
    have hsl := HL.out _ HB.out
    obtain ⟨bA, oA, rfl, hbB, _⟩ := hsl.2 (by omega)
    obtain ⟨q0, q1, q2, q3, q4, q5, q6, q7⟩ := act_cells hsl hx
    have HXK := hide (HLO.out x (List.mem_of_getElem? hx))
    have HST := hide (stS_succ (ds := n.devs) (ls := n.ls) hx)
    have HCD := hide (cdS_at (ds := n.devs) (ls := n.ls) hx)
    clear hx hsl hbB
    go_wp2_with fail
    have HB1 := hide (below_alloc wr (.cells #[.int .i64 x.kind, .int .i64 x.dev, .int .i64 x.port, .int .i64 x.p.src, .int .i64 x.p.dst, .int .i64 x.p.sport, .int .i64 x.p.dport, .int .i64 x.ch] 79))
    clear q0 q1 q2 q3 q4 q5 q6 q7
    generalize World.alloc wr _ = w3 at *
    refine (worldDo_S (HW.out.below HB1.out) (HB.out.trans (HB1.out.mono HB.out.size)) HE.out (HGD.out k) x HXK.out (by omega)).mono ?_
    rintro e w4 ⟨rfl, F', hw, hn, hF⟩
    have HB4 := hide (show Below W.heap.size W w4 from (HB.out.trans (HB1.out.mono HB.out.size)).trans (hn.below (by have := HB.out.size; have := HB1.out.size; omega) (fun j e => (HW.out.fo j e).1)))
    rw [← HST.out] at hw
    rw [← HCD.out]
    have HW4 := hide hw
    clear hw hn hF HB1
    obtain ⟨R, hR⟩ : ∃ R, cdS n.devs n.ls l k = R := ⟨_, rfl⟩
    rw [hR]
    have HR := hide hR
    clear hR
    by_cases h0 : R = 0
    case neg =>
      have e1 : (R != 0) = true := by simpa using h0
      go_wp2
      go_ret3
      exact ⟨HB4.out, Or.inl ⟨k, hlt, HC.out, by rw [HR.out]; exact h0, by rw [HR.out]; rfl⟩⟩
    have e1 : (R != 0) = false := by simpa using h0
    have H0 := hide h0
    clear h0
    go_wp2
    go_roundw
    case rel => exact ⟨k + 1, F', by omega, by go_num, HW4, HB4, hide (fun j hj => by
      rcases (by omega : j < k ∨ j = k) with h | rfl
      · exact HC.out j h
      · rw [HR.out]; exact H0.out)⟩
    case measure => simp [intOf]; omega
end Go.Proofs.Ythaiffjalgionaa

set_option linter.unusedVariables false
set_option linter.unusedSimpArgs false
namespace Go.Proofs.Ythaiffjalgionaa
open Go.RowKit Go.Maps

theorem wpAnyE_switch {P : Program} {ops : Array Oper} {Q : Exit → Act → World → Prop} {md : Region.Mode} {S : World → Prop} {s : Nat} : ∀ (fuel : Nat) (listed : Array Bool) (a : Act) (w : World), listed.getD s true = true → wpAny P md ops Q fuel listed a w → wpAnyE P md ops Q S s fuel listed a w
  | 0, _, _, _, _, h => h
  | fuel + 1, listed, a, w, hx, h => ⟨h.1, fun i hi => wpOp_mono (fun a' w' h' => by
    have hx2 : (listed.setIfInBounds i true).getD s true = true := by
      by_cases e : i = s
      · subst e
        have := (mem_ready.1 hi).1
        rw [hx] at this
        cases this
      · rw [getD_set_ne true e]; exact hx
    exact ⟨fun h0 => (by rw [hx2] at h0; cases h0), wpAnyE_switch fuel _ a' w' hx2 h'⟩) (h.2 i hi)⟩
theorem dis_step {F F' G : Nat → Prop} {B : Nat} (hd : ∀ j, F j → ¬ G j) (hF : ∀ j, F' j → F j ∨ B ≤ j) (hG : ∀ j, G j → j < B) : ∀ j, F' j → ¬ G j := fun j e g => by
  rcases hF j e with q | q
  · exact hd j q g
  · have := hG j g; omega
structure L3 (W : World) (L : List (Nat × Array Value)) (F1 F2 F3 : Nat → Prop) (gw g2 g3 : Nat) (n : NetV) (Z : WS) (k : Nat) (T U : TS) (w : World) : Prop where
  box : BX W L w
  a : WorldS W w F1 gw n.devs n.ls Z k
  t : TaleS W w F2 g2 n T
  u : TaleS W w F3 g3 n U
  d12 : ∀ j, F1 j → ¬ F2 j
  d13 : ∀ j, F1 j → ¬ F3 j
  d23 : ∀ j, F2 j → ¬ F3 j
  dl : ∀ x ∈ L, ¬ F1 x.1 ∧ ¬ F2 x.1 ∧ ¬ F3 x.1
section
variable {W w w' : World} {L : List (Nat × Array Value)} {F1 F2 F3 F' : Nat → Prop} {gw g2 g3 : Nat} {n : NetV} {Z Z' : WS} {k k' : Nat} {T U T' : TS} {l : List ActV}
theorem L3.below (h : L3 W L F1 F2 F3 gw g2 g3 n Z k T U w) (hb : Below w.heap.size w w') : L3 W L F1 F2 F3 gw g2 g3 n Z k T U w' :=
  ⟨h.box.below hb, h.a.below hb, h.t.below hb, h.u.below hb, h.d12, h.d13, h.d23, h.dl⟩
theorem L3.d (h : L3 W L F1 F2 F3 gw g2 g3 n Z k T U w) : L3 W L F1 F2 F3 gw g2 g3 n Z k T U w.drew := h.below (Below.refl _ _).drew
theorem L3.less {x : Nat × Array Value} (h : L3 W (x :: L) F1 F2 F3 gw g2 g3 n Z k T U w) : L3 W L F1 F2 F3 gw g2 g3 n Z k T U w :=
  ⟨h.box.less, h.a, h.t, h.u, h.d12, h.d13, h.d23, fun y hy => h.dl y (List.mem_cons_of_mem _ hy)⟩
theorem L3.al (h : L3 W L F1 F2 F3 gw g2 g3 n Z k T U w) (vs : Array Value) (t : TypeId) : L3 W ((w.heap.size, vs) :: L) F1 F2 F3 gw g2 g3 n Z k T U (w.alloc (.cells vs t)) := by
  have q := h.below (below_alloc w (.cells vs t))
  refine ⟨(h.box.al vs t).done, q.a, q.t, q.u, h.d12, h.d13, h.d23, fun x hx => ?_⟩
  rcases List.mem_cons.1 hx with rfl | hx
  · exact ⟨fun e => Nat.lt_irrefl _ (h.a.fo _ e).2, fun e => Nat.lt_irrefl _ (h.t.fo _ e).2, fun e => Nat.lt_irrefl _ (h.u.fo _ e).2⟩
  · exact h.dl x hx
theorem L3.stepA (h : L3 W L F1 F2 F3 gw g2 g3 n Z k T U w) (hw : WorldS W w' F' gw n.devs n.ls Z' k') (hn : Near F1 w.heap.size w w') (hF : ∀ j, F' j → F1 j ∨ w.heap.size ≤ j) : L3 W L F' F2 F3 gw g2 g3 n Z' k' T U w' :=
  ⟨h.box.beside hn (fun x hx => (h.dl x hx).1) (fun j e => (h.a.fo j e).1), hw, h.t.stay hn (fun j e => ⟨(h.a.fo j e).1, h.d12 j e⟩), h.u.stay hn (fun j e => ⟨(h.a.fo j e).1, h.d13 j e⟩),
    dis_step h.d12 hF (fun j e => (h.t.fo j e).2), dis_step h.d13 hF (fun j e => (h.u.fo j e).2), h.d23, fun x hx => ⟨fun e => by
      rcases hF _ e with q | q
      · exact (h.dl x hx).1 q
      · have := (h.box.bx x hx).2; omega, (h.dl x hx).2⟩⟩
theorem L3.stepT (h : L3 W L F1 F2 F3 gw g2 g3 n Z k T U w) (hw : TaleS W w' F' g2 n T') (hn : Near F2 w.heap.size w w') (hF : ∀ j, F' j → F2 j ∨ w.heap.size ≤ j) : L3 W L F1 F' F3 gw g2 g3 n Z k T' U w' :=
  ⟨h.box.beside hn (fun x hx => (h.dl x hx).2.1) (fun j e => (h.t.fo j e).1), h.a.stay hn (fun j e => ⟨(h.t.fo j e).1, fun q => h.d12 j q e⟩), hw, h.u.stay hn (fun j e => ⟨(h.t.fo j e).1, h.d23 j e⟩),
    fun j e1 e2 => dis_step (F := F2) (G := F1) (fun j a b => h.d12 j b a) hF (fun j e => (h.a.fo j e).2) j e2 e1, h.d13, dis_step h.d23 hF (fun j e => (h.u.fo j e).2), fun x hx => ⟨(h.dl x hx).1, fun e => by
      rcases hF _ e with q | q
      · exact (h.dl x hx).2.1 q
      · have := (h.box.bx x hx).2; omega, (h.dl x hx).2.2⟩⟩
theorem L3.stepU (h : L3 W L F1 F2 F3 gw g2 g3 n Z k T U w) (hw : TaleS W w' F' g3 n T') (hn : Near F3 w.heap.size w w') (hF : ∀ j, F' j → F3 j ∨ w.heap.size ≤ j) : L3 W L F1 F2 F' gw g2 g3 n Z k T T' w' :=
  ⟨h.box.beside hn (fun x hx => (h.dl x hx).2.2) (fun j e => (h.u.fo j e).1), h.a.stay hn (fun j e => ⟨(h.u.fo j e).1, fun q => h.d13 j q e⟩), h.t.stay hn (fun j e => ⟨(h.u.fo j e).1, fun q => h.d23 j q e⟩), hw,
    h.d12, fun j e1 e2 => dis_step (F := F3) (G := F1) (fun j a b => h.d13 j b a) hF (fun j e => (h.a.fo j e).2) j e2 e1, fun j e1 e2 => dis_step (F := F3) (G := F2) (fun j a b => h.d23 j b a) hF (fun j e => (h.t.fo j e).2) j e2 e1, fun x hx => ⟨(h.dl x hx).1, (h.dl x hx).2.1, fun e => by
      rcases hF _ e with q | q
      · exact (h.dl x hx).2.2 q
      · have := (h.box.bx x hx).2; omega⟩⟩
theorem L3.doA (h : L3 W L F1 F2 F3 gw g2 g3 n (stS n.devs n.ls l k) k T U w) (hE : netE n.devs n.ls = 0) {x : ActV} (hx : l[k]? = some x) (ho : x.ok) (hk : k < 100000) :
    Calls Try.prog 32 #[.pointer (some ⟨gw, 0, none⟩), .agg #[.int .i64 x.kind, .int .i64 x.dev, .int .i64 x.port, .int .i64 x.p.src, .int .i64 x.p.dst, .int .i64 x.p.sport, .int .i64 x.p.dport, .int .i64 x.ch]] w fun e w' => e = .returned (.int .i64 (cdS n.devs n.ls l k)) ∧ ∃ F', L3 W L F' F2 F3 gw g2 g3 n (stS n.devs n.ls l (k + 1)) (k + 1) T U w' := by
  refine (worldDo_S h.a h.box.bl hE (good_at hE l k) x ho hk).mono ?_
  rintro e w' ⟨he, F', hw, hn, hF⟩
  rw [← stS_succ hx] at hw
  rw [← cdS_at hx] at he
  exact ⟨he, F', h.stepA hw hn hF⟩
theorem L3.doT (h : L3 W L F1 F2 F3 gw g2 g3 n Z k' (stT n.devs n.ls l k) U w) (hE : netE n.devs n.ls = 0) {x : ActV} (hx : l[k]? = some x) (ho : x.ok) (hk : k ≤ 1000) (hS : (stT n.devs n.ls l k).S.length < 100000) :
    Calls Try.prog 37 #[.pointer (some ⟨g2, 0, none⟩), .agg #[.int .i64 x.kind, .int .i64 x.dev, .int .i64 x.port, .int .i64 x.p.src, .int .i64 x.p.dst, .int .i64 x.p.sport, .int .i64 x.p.dport, .int .i64 x.ch]] w fun e w' => e = .returned (.int .i64 (cdS n.devs n.ls l k)) ∧ ∃ F', L3 W L F1 F' F3 gw g2 g3 n Z k' (stT n.devs n.ls l (k + 1)) U w' := by
  refine (taleDo_S h.t rfl rfl hE x ho (Nat.le_trans (stT_len _ _ _ _) hk) hS).mono ?_
  rintro e w' ⟨he, F', hw, hn, hF⟩
  rw [← stT_succ hx] at hw
  rw [cdT_at hx] at he
  exact ⟨he, F', h.stepT hw hn hF⟩
theorem L3.doU (h : L3 W L F1 F2 F3 gw g2 g3 n Z k' T (stT n.devs n.ls l k) w) (hE : netE n.devs n.ls = 0) {x : ActV} (hx : l[k]? = some x) (ho : x.ok) (hk : k ≤ 1000) (hS : (stT n.devs n.ls l k).S.length < 100000) :
    Calls Try.prog 37 #[.pointer (some ⟨g3, 0, none⟩), .agg #[.int .i64 x.kind, .int .i64 x.dev, .int .i64 x.port, .int .i64 x.p.src, .int .i64 x.p.dst, .int .i64 x.p.sport, .int .i64 x.p.dport, .int .i64 x.ch]] w fun e w' => e = .returned (.int .i64 (cdS n.devs n.ls l k)) ∧ ∃ F', L3 W L F1 F2 F' gw g2 g3 n Z k' T (stT n.devs n.ls l (k + 1)) w' ∧ Near F3 w.heap.size w w' ∧ ∀ j, F' j → F3 j ∨ w.heap.size ≤ j := by
  refine (taleDo_S h.u rfl rfl hE x ho (Nat.le_trans (stT_len _ _ _ _) hk) hS).mono ?_
  rintro e w' ⟨he, F', hw, hn, hF⟩
  rw [← stT_succ hx] at hw
  rw [cdT_at hx] at he
  exact ⟨he, F', h.stepU hw hn hF, hn, hF⟩
end
theorem doS_len {ds : List Dev} {ls : List LinkV} (hE : netE ds ls = 0) (l : List ActV) : ∀ k, (stS ds ls l k).S.length ≤ k
  | 0 => by simp [stS]
  | k + 1 => by
    have h := doS_len hE l k
    cases hx : l[k]? with
    | none => have e : stS ds ls l (k + 1) = stS ds ls l k := by simp [stS, hx]
              rw [e]; omega
    | some x =>
      rw [stS_succ hx]
      rcases (do_good hE (good_at hE l k) x).2 with e | ⟨_, y, e⟩
      · rw [e]; omega
      · rw [e]; simp; omega
theorem stT_slen {ds : List Dev} {ls : List LinkV} (hE : netE ds ls = 0) (l : List ActV) (k : Nat) : (stT ds ls l k).S.length ≤ k := by
  rw [← (rel_at ds ls l k).s]; exact doS_len hE l k
end Go.Proofs.Ythaiffjalgionaa
