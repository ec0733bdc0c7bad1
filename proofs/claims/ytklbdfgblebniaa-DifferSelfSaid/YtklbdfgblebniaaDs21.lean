/- A part of the proof: Vd1, StepClone, StepStay, StepNext, StepDev. -/
import Derived.Test.YtklbdfgblebniaaDs20
import Derived.Deep.LoopGhost

set_option linter.unusedVariables false
set_option linter.unusedSimpArgs false
namespace Go.Proofs.Ytklbdfgblebniaa
open Go.RowKit Go.Maps

def bools (v : Nat → Bool) (n : Nat) : Array Value := ((List.range n).map fun i => Value.bool (v i)).toArray
theorem bools_get (v : Nat → Bool) {n i : Nat} (h : i < n) : (bools v n)[i]? = some (.bool (v i)) := by simp [bools, h]
theorem bools_set (v : Nat → Bool) (n i : Nat) (b : Bool) : (bools v n).setIfInBounds i (.bool b) = bools (fun k => if k = i then b else v k) n := by
  apply Array.ext'
  simp only [bools, List.setIfInBounds_toArray]
  apply List.ext_getElem?
  intro k
  rw [List.getElem?_set]
  by_cases hk : k < n
  · by_cases e : i = k
    · subst e; simp [hk]
    · simp [hk, e, Ne.symm e]
  · simp [hk]
    omega
theorem Try.infoBool : (Try.prog.info? 4).map (fun i => (i.zero, i.size, i.bytes)) = some (some (.bool false), 1, 1) := by kernel_rfl
theorem made_bools (n : Nat) : madeCells (Value.bool false).cells n = bools (fun _ => false) n := by
  apply Array.ext
  · simp [madeCells, bools]
  · intro i h1 h2
    simp [madeCells, bools, Value.cells, Nat.mod_one]
theorem run_bools (n : Nat) (hn : n ≤ 1000) (w : World) : (Instr.makeSlice 153 (.int .i64 (n : Int)) (.int .i64 (n : Int))).run Try.prog w = .ok (.slice (some ⟨w.heap.size, 0, none⟩) n n) (w.alloc (.cells (bools (fun _ => false) n) 4)) := by
  obtain ⟨i0, hi0, hz0, hz1, hz2⟩ := info_parts Try.infoBool
  have h := run_makeSlice (P := Try.prog) w 153 4 i0 _ Try.underlying153 hi0 hz0 .i64 .i64 (n : Int) (n : Int) (by omega) (Int.le_refl _) (by rw [hz1]; omega) (by rw [hz2]; omega) (by omega)
  rw [h, hz1, Int.toNat_natCast, Nat.mul_one, made_bools]

def nearStep (v : Nat → Bool) (l : LinkV) : Nat → Bool := if v l.a.toNat = v l.b.toNat then v else fun i => if i = l.b.toNat then true else if i = l.a.toNat then true else v i
def nearPass (ls : List LinkV) (v : Nat → Bool) : Nat → Bool := ls.foldl nearStep v
def nearIter (ls : List LinkV) (v : Nat → Bool) : Nat → Nat → Bool
  | 0 => v
  | k + 1 => nearPass ls (nearIter ls v k)
def cntB (n : Nat) (v : Nat → Bool) : Nat := (List.range n).countP v
theorem cntB_le (n : Nat) (v : Nat → Bool) : cntB n v ≤ n := by
  have := List.countP_le_length (p := v) (l := List.range n)
  simpa [cntB] using this
theorem cntB_mono {n : Nat} {v v' : Nat → Bool} (h : ∀ i, v i = true → v' i = true) : cntB n v ≤ cntB n v' := List.countP_mono_left (fun i _ => h i)
theorem cntB_lt {n : Nat} {v v' : Nat → Bool} (h : ∀ i, v i = true → v' i = true) {i : Nat} (hi : i < n) (h1 : v i = false) (h2 : v' i = true) : cntB n v < cntB n v' :=
  countP_lt (fun j _ => h j) ⟨i, List.mem_range.2 hi, h2, h1⟩
theorem nearStep_le (v : Nat → Bool) (l : LinkV) (i : Nat) (h : v i = true) : nearStep v l i = true := by
  unfold nearStep
  split
  · exact h
  · show (if i = l.b.toNat then true else if i = l.a.toNat then true else v i) = true
    split
    · rfl
    · split
      · rfl
      · exact h
theorem nearStep_lt {n : Nat} {v : Nat → Bool} {l : LinkV} (ha : l.a.toNat < n) (hb : l.b.toNat < n) (hne : v l.a.toNat ≠ v l.b.toNat) : cntB n v < cntB n (nearStep v l) := by
  have hs : nearStep v l = fun i => if i = l.b.toNat then true else if i = l.a.toNat then true else v i := if_neg hne
  cases e : v l.a.toNat
  · refine cntB_lt (nearStep_le v l) ha e ?_
    rw [hs]
    simp
  · refine cntB_lt (nearStep_le v l) hb (by rw [e] at hne; cases h : v l.b.toNat; rfl; exact absurd h.symm hne) ?_
    rw [hs]
    simp
def NearIs (ls : List LinkV) (i0 : Nat) (v : Nat → Bool) : Prop := nearPass ls v = v ∧ ∃ k, v = nearIter ls (fun i => decide (i = i0)) k
theorem nearIter_stays {ls : List LinkV} {v : Nat → Bool} {k : Nat} (h : nearPass ls (nearIter ls v k) = nearIter ls v k) : ∀ m, k ≤ m → nearIter ls v m = nearIter ls v k := by
  intro m hm
  induction hm with
  | refl => rfl
  | step _ ih =>
    show nearPass ls (nearIter ls v _) = _
    rw [ih, h]
theorem NearIs.unique {ls : List LinkV} {i0 : Nat} {v v' : Nat → Bool} (h : NearIs ls i0 v) (h' : NearIs ls i0 v') : v = v' := by
  obtain ⟨h1, k, rfl⟩ := h
  obtain ⟨h2, k', rfl⟩ := h'
  rcases Nat.le_total k k' with hk | hk
  · exact (nearIter_stays h1 k' hk).symm
  · exact nearIter_stays h2 k hk
def LinksIn (ls : List LinkV) (n : Nat) : Prop := ∀ l ∈ ls, (0 ≤ l.a ∧ l.a < n) ∧ (0 ≤ l.b ∧ l.b < n)

def NearP (n : NetV) (i0 : Nat) (W : World) (e : Ending) (W' : World) : Prop := ∃ N v, e = .returned (.slice (some ⟨N, 0, none⟩) n.dn n.dn) ∧ W.heap.size ≤ N ∧ Bx W' N (bools v n.dn) 4 ∧ NearIs n.ls i0 v ∧ RowKit.Below W.heap.size W W'
set_option maxRecDepth 100000 in
set_option maxHeartbeats 4000000 in
theorem near_walk (n : NetV) (i0 : Nat) (W : World) (hn : NetAt W W.heap.size n) (hd : n.dn ≤ 10) (hl : n.ln ≤ 15) (hli : LinksIn n.ls n.dn) (hi : i0 < n.dn) :
    Calls Try.prog 90 #[n.val, .int .i64 (i0 : Int)] W (NearP n i0 W) := by
  have HNW := hide (fun (w' : World) (hb : RowKit.Below W.heap.size W w') => show NetAt w' W.heap.size n from hn.below hb (Nat.le_refl _))
  have HLL := hide hn.llen
  have HLI := hide hli
  clear hn hli
  obtain ⟨dA, dn, dc, ds, lA, ln, lc, ls⟩ := n
  simp only [NetV.val] at *
  have hmb := fun w => run_bools dn (by omega) w
  have hg0 := bools_get (fun _ => false) hi
  go_enter Try.func90, Try.ntmps90
  go_wp2_with fail
  have hst : (bools (fun _ => false) dn).setIfInBounds i0 (.bool true) = bools (fun i => decide (i = i0)) dn := by
    rw [bools_set]
    have e : (fun k => if k = i0 then true else false) = fun i => decide (i = i0) := by funext k; by_cases e : k = i0 <;> simp [e]
    rw [e]
  rw [hst]
  have hw1 : RowKit.Below W.heap.size W ((W.alloc (.cells #[.slice dA dn dc, .slice lA ln lc] 25)).alloc (.cells (bools (fun i => decide (i = i0)) dn) 4)) :=
    ((RowKit.Below.refl _ _).alloc (Nat.le_refl _) _).alloc (by simp) _
  have hx1 := (Bx.new W #[.slice dA dn dc, .slice lA ln lc] 25).below (below_alloc2 (W.alloc (.cells #[.slice dA dn dc, .slice lA ln lc] 25)) (.cells (bools (fun i => decide (i = i0)) dn) 4))
  have hy1 : Bx ((W.alloc (.cells #[.slice dA dn dc, .slice lA ln lc] 25)).alloc (.cells (bools (fun i => decide (i = i0)) dn) 4)) (W.heap.size + 1) (bools (fun i => decide (i = i0)) dn) 4 := by
    have h := Bx.new (W.alloc (.cells #[.slice dA dn dc, .slice lA ln lc] 25)) (bools (fun i => decide (i = i0)) dn) 4
    simpa using h
  have HB1 := hide hw1
  have HX1 := hide hx1
  have HY1 := hide hy1
  have HC0 := hide (show 0 < cntB dn (fun i => decide (i = i0)) from by
    have := cntB_lt (n := dn) (v := fun _ => false) (v' := fun i => decide (i = i0)) (fun i h => by cases h) hi rfl (by simp)
    omega)
  clear hw1 hx1 hy1 hmb hg0 hst
  generalize World.alloc (World.alloc W _) _ = w1 at *
  go_loopg [6] (dn + 1 - cntB dn (fun i => decide (i = i0))) (fun m u wr => ∃ (more : Bool) (v : Nat → Bool), u = .bool more ∧ Hid (Bx wr (W.heap.size + 1) (bools v dn) 4) ∧ Hid (Bx wr W.heap.size #[.slice dA dn dc, .slice lA ln lc] 25) ∧ Hid (RowKit.Below W.heap.size W wr) ∧ Hid (m = if more then dn + 1 - cntB dn v else 0) ∧ Hid (∃ k, v = nearIter ls (fun i => decide (i = i0)) k) ∧ Hid (more = false → nearPass ls v = v))
  case atStart => exact ⟨true, _, rfl, HY1, HX1, HB1, hide rfl, hide ⟨0, rfl⟩, hide (fun h => by cases h)⟩
  case round =>
    clear HY1 HX1 HB1 HC0
    obtain ⟨more, v, rfl, HY, HX, HB, HMU, HIT, HFX⟩ := hrel
    cases more
    · have HF := hide (And.intro (HFX.out rfl) HIT.out)
      go_wp2
      go_ret
      exact ⟨_, v, rfl, by omega, HY.out, HF.out, HB.out⟩
    · clear HFX
      have x1 : wr.cell? ⟨W.heap.size, 1, none⟩ = some (.slice lA ln lc) := HX.out.get 1 _ rfl
      go_wp2_with fail
      clear x1
      go_loopw [6, 20] (fun u i wr => ∃ (k : Nat) (more : Bool) (vk : Nat → Bool), k ≤ ln ∧ u = .bool more ∧ i = .int .i64 (k : Int) ∧ Hid (Bx wr (W.heap.size + 1) (bools vk dn) 4) ∧ Hid (Bx wr W.heap.size #[.slice dA dn dc, .slice lA ln lc] 25) ∧ Hid (RowKit.Below W.heap.size W wr) ∧ Hid (vk = (ls.take k).foldl nearStep v) ∧ Hid ((∀ i, v i = true → vk i = true) ∧ ((more = false ∧ vk = v) ∨ (more = true ∧ cntB dn v < cntB dn vk)))) (fun _ i _ => ln - (intOf i).toNat)
      case atStart => exact ⟨0, false, v, Nat.zero_le _, rfl, rfl, HY, HX, HB, hide rfl, hide ⟨fun _ h => h, .inl ⟨rfl, rfl⟩⟩⟩
      case round =>
        clear HY HX HB
        obtain ⟨k, more, vk, hk, rfl, rfl, HY, HX, HB, HV, HM⟩ := hrel
        by_cases hlt : k < ln
        · obtain ⟨r, hr⟩ : ∃ r, ls[k]? = some r := ⟨_, List.getElem?_eq_getElem (by have := HLL.out; omega)⟩
          have hna := HNW.out wr HB.out
          obtain ⟨lb, lo, rfl, _, _⟩ := hna.ls.2 (by show 0 < ln; omega)
          obtain ⟨_, q0, q1, q2, q3⟩ := link_get hna.ls hr
          obtain ⟨⟨ha1, ha2⟩, hb1, hb2⟩ := HLI.out r (List.mem_of_getElem? hr)
          have HST := hide (show (ls.take (k + 1)).foldl nearStep v = nearStep vk r from by
            obtain ⟨hk', e⟩ := List.getElem?_eq_some_iff.1 hr
            rw [List.take_succ_eq_append_getElem hk', e, List.foldl_append, HV.out]
            rfl)
          clear hna hr
          obtain ⟨ra, rp, rb, rq⟩ := r
          simp only at q0 q1 q2 q3 ha1 ha2 hb1 hb2
          obtain ⟨an, rfl⟩ : ∃ an : Nat, ra = (an : Int) := ⟨ra.toNat, by omega⟩
          obtain ⟨bn, rfl⟩ : ∃ bn : Nat, rb = (bn : Int) := ⟨rb.toNat, by omega⟩
          have han : an < dn := by omega
          have hbn : bn < dn := by omega
          clear ha1 ha2 hb1 hb2
          have hb8 := below_alloc2 wr (.cells #[.int .i64 (an : Int), .int .i64 rp, .int .i64 (bn : Int), .int .i64 rq] 36)
          have HY8 := hide (HY.out.below hb8)
          have HX8 := hide (HX.out.below hb8)
          have HB8 := hide (HB.out.trans (hb8.mono HB.out.size))
          have HL8 := hide (Bx.new wr #[.int .i64 (an : Int), .int .i64 rp, .int .i64 (bn : Int), .int .i64 rq] 36)
          have hne8 : W.heap.size + 1 ≠ wr.heap.size := by have := HY.out.lt; omega
          clear hb8
          go_wp2_with fail
          clear q0 q1 q2 q3 HY HX HB
          generalize World.alloc wr _ = w8 at *
          generalize wr.heap.size = N8 at *
          obtain ⟨va, hva⟩ : ∃ va, vk an = va := ⟨_, rfl⟩
          obtain ⟨vb, hvb⟩ : ∃ vb, vk bn = vb := ⟨_, rfl⟩
          have HVA := hide (And.intro hva hvb)
          have HGA := hide (fun (w' : World) (h : Bx w' (W.heap.size + 1) (bools vk dn) 4) => show w'.cell? ⟨W.heap.size + 1, an, none⟩ = some (.bool va) ∧ w'.cell? ⟨W.heap.size + 1, bn, none⟩ = some (.bool vb) from
            ⟨hva ▸ h.get an _ (bools_get vk han), hvb ▸ h.get bn _ (bools_get vk hbn)⟩)
          clear hva hvb
          refine wp_region_abs (by kernel_rfl) (by kernel_rfl) ?_
          intro T hT gt hg1 hgi
          have HGT := hide hg1
          clear hg1 hgi
          have k0 : ∀ t, (gt t).cell? ⟨N8, 0, none⟩ = some (.int .i64 (an : Int)) := fun t => (HL8.out.below (HGT.out t)).get 0 _ rfl
          have k1 : ∀ t, (gt t).cell? ⟨N8, 2, none⟩ = some (.int .i64 (bn : Int)) := fun t => (HL8.out.below (HGT.out t)).get 2 _ rfl
          have k2 : ∀ t, (gt t).cell? ⟨W.heap.size + 1, an, none⟩ = some (.bool va) := fun t => (HGA.out _ (HY8.out.below (HGT.out t))).1
          have k3 : ∀ t, (gt t).cell? ⟨W.heap.size + 1, bn, none⟩ = some (.bool vb) := fun t => (HGA.out _ (HY8.out.below (HGT.out t))).2
          repeat (go_big_quiet_step (fail))
          refine wpQuiet_nil ?_
          intro _ hw'
          obtain ⟨t, rfl⟩ := hw'
          have HY9 := hide (HY8.out.below (HGT.out t))
          have HX9 := hide (HX8.out.below (HGT.out t))
          have HL9 := hide (HL8.out.below (HGT.out t))
          have HB9 := hide (HB8.out.trans ((HGT.out t).mono HB8.out.size))
          generalize gt t = w9 at *
          clear HGT k0 k1 k2 k3 HY8 HX8 HL8 HB8
          have hab : va ≠ vb → an ≠ bn := fun hne e => hne (by rw [← HVA.out.1, ← HVA.out.2, e])
          cases va <;> cases vb
          · have HN := hide (show (ls.take (k + 1)).foldl nearStep v = vk from by rw [HST.out]; unfold nearStep; rw [if_pos]; show vk an = vk bn; rw [HVA.out.1, HVA.out.2])
            clear hab
            go_wp2_with fail
            go_roundw
            case rel => exact ⟨k + 1, more, vk, by omega, rfl, by go_num, HY9, HX9, HB9, hide HN.out.symm, HM⟩
            case measure => simp [intOf]; omega
          · have hab := hab (by decide)
            have HNE := hide (show vk an ≠ vk bn from by rw [HVA.out.1, HVA.out.2]; decide)
            have hdr := (RowKit.Below.refl w9.heap.size w9).drew
            have HY10 := hide (HY9.out.below hdr)
            have HX10 := hide (HX9.out.below hdr)
            have HL10 := hide (HL9.out.below hdr)
            have HB10 := hide (HB9.out.trans (hdr.mono HB9.out.size))
            clear hdr HY9 HX9 HL9 HB9
            go_wp2_with fail
            refine wp_region_E (fun w' => w'.cell? ⟨N8, 0, none⟩ = some (.int .i64 (an : Int)) ∧ w'.cell? ⟨N8, 2, none⟩ = some (.int .i64 (bn : Int))) 9 (by kernel_rfl) ⟨HL10.out.get 0 _ rfl, HL10.out.get 2 _ rfl⟩ (fun hS inv => ?_)
            generalize World.drew w9 = wd at *
            refine wpAnyE_pure (i := 0) (v := ?_) rfl (by kernel_rfl) (by kernel_rfl) (by kernel_rfl) (by kernel_rfl) (fun _ _ _ h => h) inv (Or.inl ⟨by rfl, ?_⟩) (fun _ => hS) (fun inv2 => ?_)
            rotate_left
            · intro w _
              go_simp
              try with_reducible rfl
            clear inv
            have inv := inv2
            clear inv2
            try simp only [Act.put, nrmA, nrmB, nrmC]
            refine wpAnyE_pure (i := 1) (v := ?_) rfl (by kernel_rfl) (by kernel_rfl) (by kernel_rfl) (by kernel_rfl) (fun _ _ _ h => h) inv (Or.inl ⟨by rfl, ?_⟩) (fun _ => hS) (fun inv2 => ?_)
            rotate_left
            · intro w _
              go_simp
              try with_reducible rfl
            clear inv
            have inv := inv2
            clear inv2
            try simp only [Act.put, nrmA, nrmB, nrmC]
            refine wpAnyE_load (i := 2) (v := ?_) [6, 7, 9] rfl (by kernel_rfl) (by kernel_rfl) (by kernel_rfl) (by kernel_rfl) (fun _ _ _ h => h) inv (Or.inl ⟨by rfl, ?_⟩) hS (fun inv2 => ?_)
            rotate_left
            · intro w hSw
              obtain ⟨s0, s1⟩ := hSw
              go_simp
              try with_reducible rfl
            clear inv
            have inv := inv2
            clear inv2
            try simp only [Act.put, nrmA, nrmB, nrmC]
            refine wpAnyE_pure (i := 3) (v := ?_) rfl (by kernel_rfl) (by kernel_rfl) (by kernel_rfl) (by kernel_rfl) (fun _ _ _ h => h) inv (Or.inl ⟨by rfl, ?_⟩) (fun _ => hS) (fun inv2 => ?_)
            rotate_left
            · intro w _
              go_simp
              try with_reducible rfl
            clear inv
            have inv := inv2
            clear inv2
            try simp only [Act.put, nrmA, nrmB, nrmC]
            refine wpAnyE_pure (i := 4) (v := ?_) rfl (by kernel_rfl) (by kernel_rfl) (by kernel_rfl) (by kernel_rfl) (fun _ _ _ h => h) inv (Or.inl ⟨by rfl, ?_⟩) (fun _ => hS) (fun inv2 => ?_)
            rotate_left
            · intro w _
              go_simp
              try with_reducible rfl
            clear inv
            have inv := inv2
            clear inv2
            try simp only [Act.put, nrmA, nrmB, nrmC]
            refine wpAnyE_load (i := 5) (v := ?_) [8, 9] rfl (by kernel_rfl) (by kernel_rfl) (by kernel_rfl) (by kernel_rfl) (fun _ _ _ h => h) inv (Or.inl ⟨by rfl, ?_⟩) hS (fun inv2 => ?_)
            rotate_left
            · intro w hSw
              obtain ⟨s0, s1⟩ := hSw
              go_simp
              try with_reducible rfl
            clear inv
            have inv := inv2
            clear inv2
            try simp only [Act.put, nrmA, nrmB, nrmC]
            refine wpAnyE_pure (i := 6) (v := ?_) rfl (by kernel_rfl) (by kernel_rfl) (by kernel_rfl) (by kernel_rfl) (fun _ _ _ h => h) inv (Or.inl ⟨by rfl, ?_⟩) (fun _ => hS) (fun inv2 => ?_)
            rotate_left
            · intro w _
              go_simp
              try with_reducible rfl
            clear inv
            have inv := inv2
            clear inv2
            try simp only [Act.put, nrmA, nrmB, nrmC]
            have c7 := (HGA.out _ HY10.out).1
            have f7 : wd.frozen? ⟨W.heap.size + 1, an, none⟩ = false := HY10.out.frozen an
            refine wpAnyE_one (i := 7) rfl (by kernel_rfl) inv (fun K hK => ?_)
            go_simp
            clear c7 f7
            have HY11 := hide (HY10.out.set an (.bool true))
            rw [bools_set] at HY11
            have HX11 := hide (HX10.out.far ⟨W.heap.size + 1, an, none⟩ (.bool true) (by show W.heap.size ≠ W.heap.size + 1; omega))
            have HL11 := hide (HL10.out.far ⟨W.heap.size + 1, an, none⟩ (.bool true) (by show N8 ≠ W.heap.size + 1; exact fun e => hne8 e.symm))
            have HB11 := hide (HB10.out.setCell (show W.heap.size ≤ W.heap.size + 1 by omega) (.bool true) (p := ⟨W.heap.size + 1, an, none⟩))
            clear HY10 HX10 HL10 HB10 hS
            generalize World.setCell wd _ _ = w10 at *
            have hS : w10.cell? ⟨N8, 0, none⟩ = some (.int .i64 (an : Int)) ∧ w10.cell? ⟨N8, 2, none⟩ = some (.int .i64 (bn : Int)) := ⟨HL11.out.get 0 _ rfl, HL11.out.get 2 _ rfl⟩
            refine hK.out _ _ (fun _ => hS) (fun inv2 => ?_)
            clear hK K hS
            clear inv
            have inv := inv2
            clear inv2
            try simp only [Act.put, nrmA, nrmB, nrmC]
            have hS : w10.cell? ⟨N8, 0, none⟩ = some (.int .i64 (an : Int)) ∧ w10.cell? ⟨N8, 2, none⟩ = some (.int .i64 (bn : Int)) := ⟨HL11.out.get 0 _ rfl, HL11.out.get 2 _ rfl⟩
            refine wpAnyE_pure (i := 8) (v := ?_) rfl (by kernel_rfl) (by kernel_rfl) (by kernel_rfl) (by kernel_rfl) (fun _ _ _ h => h) inv (Or.inl ⟨by rfl, ?_⟩) (fun _ => hS) (fun inv2 => ?_)
            rotate_left
            · intro w _
              go_simp
              try with_reducible rfl
            clear inv
            have inv := inv2
            clear inv2
            try simp only [Act.put, nrmA, nrmB, nrmC]
            have c9 := HY11.out.get bn _ (bools_get _ hbn)
            have f9 : w10.frozen? ⟨W.heap.size + 1, bn, none⟩ = false := HY11.out.frozen bn
            refine wpAnyE_late (i := 9) rfl (by kernel_rfl) inv (by kernel_rfl) (fun K hK => ?_)
            go_simp
            refine hK.out _ _ (fun inv2 => ?_)
            clear hK K
            clear inv
            have inv := inv2
            clear inv2
            try simp only [Act.put, nrmA, nrmB, nrmC]
            refine wpAnyE_done (by kernel_rfl) ?_ _
            clear inv
            clear c9 f9 hS
            have HY12 := hide (HY11.out.set bn (.bool true))
            rw [bools_set] at HY12
            have HX12 := hide (HX11.out.far ⟨W.heap.size + 1, bn, none⟩ (.bool true) (by show W.heap.size ≠ W.heap.size + 1; omega))
            have HB12 := hide (HB11.out.setCell (show W.heap.size ≤ W.heap.size + 1 by omega) (.bool true) (p := ⟨W.heap.size + 1, bn, none⟩))
            clear HY11 HX11 HL11 HB11
            generalize World.setCell w10 _ _ = w12 at *
            have HN := hide (show (ls.take (k + 1)).foldl nearStep v = fun i => if i = bn then true else if i = an then true else vk i from by
              rw [HST.out]; exact if_neg HNE.out)
            have HM2 := hide (show (∀ i, v i = true → (fun i => if i = bn then true else if i = an then true else vk i) i = true) ∧ cntB dn v < cntB dn (fun i => if i = bn then true else if i = an then true else vk i) from by
              have e : (fun i => if i = bn then true else if i = an then true else vk i) = nearStep vk ⟨(an : Int), rp, (bn : Int), rq⟩ := HN.out.symm.trans HST.out
              rw [e]
              refine ⟨fun i hi => nearStep_le _ _ _ (HM.out.1 i hi), ?_⟩
              have h1 := nearStep_lt (n := dn) (v := vk) (l := ⟨(an : Int), rp, (bn : Int), rq⟩) (by simpa using han) (by simpa using hbn) HNE.out
              have h2 : cntB dn v ≤ cntB dn vk := cntB_mono HM.out.1
              omega)
            clear hab HNE HST HVA HGA HM
            go_wp2_with fail
            go_roundw
            case rel => exact ⟨k + 1, true, _, by omega, rfl, by go_num, HY12, HX12, HB12, hide HN.out.symm, hide ⟨HM2.out.1, .inr ⟨rfl, HM2.out.2⟩⟩⟩
            case measure => simp [intOf]; omega
          · have hab := hab (by decide)
            have HNE := hide (show vk an ≠ vk bn from by rw [HVA.out.1, HVA.out.2]; decide)
            have hdr := (RowKit.Below.refl w9.heap.size w9).drew
            have HY10 := hide (HY9.out.below hdr)
            have HX10 := hide (HX9.out.below hdr)
            have HL10 := hide (HL9.out.below hdr)
            have HB10 := hide (HB9.out.trans (hdr.mono HB9.out.size))
            clear hdr HY9 HX9 HL9 HB9
            go_wp2_with fail
            refine wp_region_E (fun w' => w'.cell? ⟨N8, 0, none⟩ = some (.int .i64 (an : Int)) ∧ w'.cell? ⟨N8, 2, none⟩ = some (.int .i64 (bn : Int))) 9 (by kernel_rfl) ⟨HL10.out.get 0 _ rfl, HL10.out.get 2 _ rfl⟩ (fun hS inv => ?_)
            generalize World.drew w9 = wd at *
            refine wpAnyE_pure (i := 0) (v := ?_) rfl (by kernel_rfl) (by kernel_rfl) (by kernel_rfl) (by kernel_rfl) (fun _ _ _ h => h) inv (Or.inl ⟨by rfl, ?_⟩) (fun _ => hS) (fun inv2 => ?_)
            rotate_left
            · intro w _
              go_simp
              try with_reducible rfl
            clear inv
            have inv := inv2
            clear inv2
            try simp only [Act.put, nrmA, nrmB, nrmC]
            refine wpAnyE_pure (i := 1) (v := ?_) rfl (by kernel_rfl) (by kernel_rfl) (by kernel_rfl) (by kernel_rfl) (fun _ _ _ h => h) inv (Or.inl ⟨by rfl, ?_⟩) (fun _ => hS) (fun inv2 => ?_)
            rotate_left
            · intro w _
              go_simp
              try with_reducible rfl
            clear inv
            have inv := inv2
            clear inv2
            try simp only [Act.put, nrmA, nrmB, nrmC]
            refine wpAnyE_load (i := 2) (v := ?_) [6, 7, 9] rfl (by kernel_rfl) (by kernel_rfl) (by kernel_rfl) (by kernel_rfl) (fun _ _ _ h => h) inv (Or.inl ⟨by rfl, ?_⟩) hS (fun inv2 => ?_)
            rotate_left
            · intro w hSw
              obtain ⟨s0, s1⟩ := hSw
              go_simp
              try with_reducible rfl
            clear inv
            have inv := inv2
            clear inv2
            try simp only [Act.put, nrmA, nrmB, nrmC]
            refine wpAnyE_pure (i := 3) (v := ?_) rfl (by kernel_rfl) (by kernel_rfl) (by kernel_rfl) (by kernel_rfl) (fun _ _ _ h => h) inv (Or.inl ⟨by rfl, ?_⟩) (fun _ => hS) (fun inv2 => ?_)
            rotate_left
            · intro w _
              go_simp
              try with_reducible rfl
            clear inv
            have inv := inv2
            clear inv2
            try simp only [Act.put, nrmA, nrmB, nrmC]
            refine wpAnyE_pure (i := 4) (v := ?_) rfl (by kernel_rfl) (by kernel_rfl) (by kernel_rfl) (by kernel_rfl) (fun _ _ _ h => h) inv (Or.inl ⟨by rfl, ?_⟩) (fun _ => hS) (fun inv2 => ?_)
            rotate_left
            · intro w _
              go_simp
              try with_reducible rfl
            clear inv
            have inv := inv2
            clear inv2
            try simp only [Act.put, nrmA, nrmB, nrmC]
            refine wpAnyE_load (i := 5) (v := ?_) [8, 9] rfl (by kernel_rfl) (by kernel_rfl) (by kernel_rfl) (by kernel_rfl) (fun _ _ _ h => h) inv (Or.inl ⟨by rfl, ?_⟩) hS (fun inv2 => ?_)
            rotate_left
            · intro w hSw
              obtain ⟨s0, s1⟩ := hSw
              go_simp
              try with_reducible rfl
            clear inv
            have inv := inv2
            clear inv2
            try simp only [Act.put, nrmA, nrmB, nrmC]
            refine wpAnyE_pure (i := 6) (v := ?_) rfl (by kernel_rfl) (by kernel_rfl) (by kernel_rfl) (by kernel_rfl) (fun _ _ _ h => h) inv (Or.inl ⟨by rfl, ?_⟩) (fun _ => hS) (fun inv2 => ?_)
            rotate_left
            · intro w _
              go_simp
              try with_reducible rfl
            clear inv
            have inv := inv2
            clear inv2
            try simp only [Act.put, nrmA, nrmB, nrmC]
            have c7 := (HGA.out _ HY10.out).1
            have f7 : wd.frozen? ⟨W.heap.size + 1, an, none⟩ = false := HY10.out.frozen an
            refine wpAnyE_one (i := 7) rfl (by kernel_rfl) inv (fun K hK => ?_)
            go_simp
            clear c7 f7
            have HY11 := hide (HY10.out.set an (.bool true))
            rw [bools_set] at HY11
            have HX11 := hide (HX10.out.far ⟨W.heap.size + 1, an, none⟩ (.bool true) (by show W.heap.size ≠ W.heap.size + 1; omega))
            have HL11 := hide (HL10.out.far ⟨W.heap.size + 1, an, none⟩ (.bool true) (by show N8 ≠ W.heap.size + 1; exact fun e => hne8 e.symm))
            have HB11 := hide (HB10.out.setCell (show W.heap.size ≤ W.heap.size + 1 by omega) (.bool true) (p := ⟨W.heap.size + 1, an, none⟩))
            clear HY10 HX10 HL10 HB10 hS
            generalize World.setCell wd _ _ = w10 at *
            have hS : w10.cell? ⟨N8, 0, none⟩ = some (.int .i64 (an : Int)) ∧ w10.cell? ⟨N8, 2, none⟩ = some (.int .i64 (bn : Int)) := ⟨HL11.out.get 0 _ rfl, HL11.out.get 2 _ rfl⟩
            refine hK.out _ _ (fun _ => hS) (fun inv2 => ?_)
            clear hK K hS
            clear inv
            have inv := inv2
            clear inv2
            try simp only [Act.put, nrmA, nrmB, nrmC]
            have hS : w10.cell? ⟨N8, 0, none⟩ = some (.int .i64 (an : Int)) ∧ w10.cell? ⟨N8, 2, none⟩ = some (.int .i64 (bn : Int)) := ⟨HL11.out.get 0 _ rfl, HL11.out.get 2 _ rfl⟩
            refine wpAnyE_pure (i := 8) (v := ?_) rfl (by kernel_rfl) (by kernel_rfl) (by kernel_rfl) (by kernel_rfl) (fun _ _ _ h => h) inv (Or.inl ⟨by rfl, ?_⟩) (fun _ => hS) (fun inv2 => ?_)
            rotate_left
            · intro w _
              go_simp
              try with_reducible rfl
            clear inv
            have inv := inv2
            clear inv2
            try simp only [Act.put, nrmA, nrmB, nrmC]
            have c9 := HY11.out.get bn _ (bools_get _ hbn)
            have f9 : w10.frozen? ⟨W.heap.size + 1, bn, none⟩ = false := HY11.out.frozen bn
            refine wpAnyE_late (i := 9) rfl (by kernel_rfl) inv (by kernel_rfl) (fun K hK => ?_)
            go_simp
            refine hK.out _ _ (fun inv2 => ?_)
            clear hK K
            clear inv
            have inv := inv2
            clear inv2
            try simp only [Act.put, nrmA, nrmB, nrmC]
            refine wpAnyE_done (by kernel_rfl) ?_ _
            clear inv
            clear c9 f9 hS
            have HY12 := hide (HY11.out.set bn (.bool true))
            rw [bools_set] at HY12
            have HX12 := hide (HX11.out.far ⟨W.heap.size + 1, bn, none⟩ (.bool true) (by show W.heap.size ≠ W.heap.size + 1; omega))
            have HB12 := hide (HB11.out.setCell (show W.heap.size ≤ W.heap.size + 1 by omega) (.bool true) (p := ⟨W.heap.size + 1, bn, none⟩))
            clear HY11 HX11 HL11 HB11
            generalize World.setCell w10 _ _ = w12 at *
            have HN := hide (show (ls.take (k + 1)).foldl nearStep v = fun i => if i = bn then true else if i = an then true else vk i from by
              rw [HST.out]; exact if_neg HNE.out)
            have HM2 := hide (show (∀ i, v i = true → (fun i => if i = bn then true else if i = an then true else vk i) i = true) ∧ cntB dn v < cntB dn (fun i => if i = bn then true else if i = an then true else vk i) from by
              have e : (fun i => if i = bn then true else if i = an then true else vk i) = nearStep vk ⟨(an : Int), rp, (bn : Int), rq⟩ := HN.out.symm.trans HST.out
              rw [e]
              refine ⟨fun i hi => nearStep_le _ _ _ (HM.out.1 i hi), ?_⟩
              have h1 := nearStep_lt (n := dn) (v := vk) (l := ⟨(an : Int), rp, (bn : Int), rq⟩) (by simpa using han) (by simpa using hbn) HNE.out
              have h2 : cntB dn v ≤ cntB dn vk := cntB_mono HM.out.1
              omega)
            clear hab HNE HST HVA HGA HM
            go_wp2_with fail
            go_roundw
            case rel => exact ⟨k + 1, true, _, by omega, rfl, by go_num, HY12, HX12, HB12, hide HN.out.symm, hide ⟨HM2.out.1, .inr ⟨rfl, HM2.out.2⟩⟩⟩
            case measure => simp [intOf]; omega
          · have HN := hide (show (ls.take (k + 1)).foldl nearStep v = vk from by rw [HST.out]; unfold nearStep; rw [if_pos]; show vk an = vk bn; rw [HVA.out.1, HVA.out.2])
            clear hab
            go_wp2_with fail
            go_roundw
            case rel => exact ⟨k + 1, more, vk, by omega, rfl, by go_num, HY9, HX9, HB9, hide HN.out.symm, HM⟩
            case measure => simp [intOf]; omega
        · obtain rfl : k = ln := by omega
          have HFL := hide (show vk = nearPass ls v from by rw [HV.out, List.take_of_length_le (Nat.le_of_eq HLL.out)]; rfl)
          go_wp2_with fail
          go_roundg (if more then dn + 1 - cntB dn vk else 0)
          case measure =>
            have h1 := HMU.out
            rw [if_pos trivial] at h1
            have h2 := cntB_le dn v
            have h3 := cntB_le dn vk
            rcases HM.out.2 with ⟨rfl, _⟩ | ⟨rfl, hc⟩
            · simp; omega
            · simp; omega
          case rel =>
            exact ⟨more, vk, rfl, HY, HX, HB, hide rfl, hide (by
              obtain ⟨j, hj⟩ := HIT.out
              exact ⟨j + 1, by rw [HFL.out, hj]; rfl⟩), hide (fun hm => by
              rcases HM.out.2 with ⟨_, h⟩ | ⟨h, _⟩
              · rw [h]; rw [← HFL.out]; exact h
              · rw [hm] at h; cases h)⟩
end Go.Proofs.Ytklbdfgblebniaa

set_option linter.unusedVariables false
set_option linter.unusedSimpArgs false
namespace Go.Proofs.Ytklbdfgblebniaa
open Go.ChangeShapes Go.WideShapes Go.ChangeAt Go.RowKit

theorem LinkV.one (r : LinkV) : ∀ u ∈ r.cells, u.oneCell' = true := by
  intro u hu
  simp only [LinkV.cells, List.mem_cons, List.not_mem_nil, or_false] at hu
  rcases hu with rfl | rfl | rfl | rfl <;> rfl
def i64Cells (k : Int) : List Value := [.int .i64 k]
theorem i64Cells_len (k : Int) : (i64Cells k).length = 1 := rfl
theorem i64Cells_one (k : Int) : ∀ u ∈ i64Cells k, u.oneCell' = true := by
  intro u hu
  simp only [i64Cells, List.mem_cons, List.not_mem_nil, or_false] at hu
  subst hu; rfl

theorem Try.infoLink : (Try.prog.info? 36).map (fun i => (i.zero, i.size, i.bytes)) = some (some (.agg #[.int .i64 0, .int .i64 0, .int .i64 0, .int .i64 0]), 4, 32) := by kernel_rfl
theorem Try.infoDevice : (Try.prog.info? 34).map (fun i => (i.zero, i.size, i.bytes)) = some (some (.agg #[.string ⟨#[]⟩, .int .i64 0, .int .i64 0, .int .u8 0, .slice none 0 0, .slice none 0 0, .slice none 0 0]), 7, 112) := by kernel_rfl

set_option maxRecDepth 100000 in
theorem cloneInt_walk (l : List Int) (A : Option Addr) (n c : Nat) (W : World) (hn : n ≤ 1048576) (hl : SlAt i64Cells 1 W W.heap.size A n l) :
    Calls Try.prog 91 #[.slice A n c] W fun e W' =>
      ∃ v, e = .returned v ∧ W'.ownsRow W.heap.size 3 1 v n (l.flatMap i64Cells) ∧ Below W.heap.size W W' := by
  obtain ⟨i0, hi0, hz0, hz1, hz2⟩ := info_parts Try.infoInt
  rcases A with _ | ad
  · have hn0 : n = 0 := by
      rcases Nat.eq_zero_or_pos n with h | h
      · exact h
      · obtain ⟨b, o, e, _⟩ := hl.2 h; cases e
    subst hn0
    have : l = [] := List.eq_nil_of_length_eq_zero hl.1
    subst this
    have heq := fun w => Lib.run_eql_slice_nil (P := Try.prog) w _ _ none 0 c 0 0 Try.underlying30
    go_enter Try.func91, Try.ntmps91
    go_wp2
    go_ret
    exact ⟨_, rfl, World.ownsRow_nil _ _ _ _, Below.refl _ _⟩
  · have HR := hide (hl.reads i64Cells_len (by omega))
    clear hl
    have heq := fun w => Lib.run_eql_slice_nil (P := Try.prog) w _ _ (some ad) n c 0 0 Try.underlying30
    go_enter Try.func91, Try.ntmps91
    go_wp2_with (at_builtin; refine wpList_append_any _ rfl (.tmp 5) (.tmp 6) 30 rfl W.heap.size 3 i0 _ 1 8 Try.underlying30 hi0 hz0 hz1 hz2 rfl (by omega) (.slice (some ⟨W.heap.size, 0, none⟩) 0 0) 0 [] rfl (World.ownsRow_lit _ #[] 0 (Nat.le_refl _) (by decide) rfl) W.heap.size (some ad) n c _ rfl (HR.out.alloc (Nat.le_refl _) _) (flat_one i64Cells_one l) (by simp only [maxLen]; omega) (by omega) (by simp) ?_; intro v1 w1 hown1 hg1 hat1)
    go_ret
    refine ⟨v1, rfl, by simpa using hown1, ((Below.refl _ _).alloc (Nat.le_refl _) _).grown hg1 (by simp) (fun k hk => ?_)⟩
    simp [Value.ownBlock] at hk
    omega
end Go.Proofs.Ytklbdfgblebniaa

set_option linter.unusedVariables false
set_option linter.unusedSimpArgs false
namespace Go.Proofs.Ytklbdfgblebniaa
open Go.RowKit

def StayOn (p : Nat → Prop) (w w' : World) : Prop := ∀ (a : Addr) (v : Value), p a.block → w.cell? a = some v → w'.cell? a = some v

section
variable {p : Nat → Prop} {w w' w'' : World} {B B' n : Nat} {A : Option Addr}

theorem cell_lt {a : Addr} {v : Value} (h : w.cell? a = some v) : a.block < w.heap.size := by
  by_cases hl : a.block < w.heap.size
  · exact hl
  · exfalso
    have hn : w.heap[a.block]? = none := Array.getElem?_eq_none (by omega)
    simp [World.cell?, hn] at h

theorem StayOn.trans (h : StayOn p w w') (h' : StayOn p w' w'') : StayOn p w w'' := fun a v hp hv => h' a v hp (h a v hp hv)
theorem StayOn.of_below (h : Below B w w') : StayOn (fun k => k < B) w w' := fun a v hp hv => (h.cell (p := a) hp).trans hv
theorem StayOn.of_grown {row : Option Nat} (h : w.grownBy w' row) : StayOn (fun k => some k ≠ row) w w' := fun a v hp hv =>
  (World.cell?_of_block (h.block a.block (cell_lt hv) hp)).trans hv
theorem StayOn.of_set (q : Addr) (u : Value) : StayOn (fun k => k ≠ q.block) w (w.setCell q u) := fun a v hp hv =>
  (World.cell?_of_block (Below.heap_setCell w q u a.block hp)).trans hv
theorem StayOn.weak {q : Nat → Prop} (h : StayOn p w w') (hq : ∀ k, q k → p k) : StayOn q w w' := fun a v hp hv => h a v (hq _ hp) hv

theorem SlAt.stay {α : Type} {cells : α → List Value} {s : Nat} {l : List α} (h : SlAt cells s w B A n l) (hs : StayOn p w w') (hp : ∀ a, A = some a → p a.block) (hB : B ≤ B') : SlAt cells s w' B' A n l :=
  ⟨h.1, fun h0 => by
    obtain ⟨b, o, e, hb, hg⟩ := h.2 h0
    exact ⟨b, o, e, by omega, fun k r hr j v hv => hs _ _ (show p b from hp _ e) (hg k r hr j v hv)⟩⟩
theorem IntsAt.stay {l : List Int} (h : IntsAt w B A n l) (hs : StayOn p w w') (hp : ∀ a, A = some a → p a.block) (hB : B ≤ B') : IntsAt w' B' A n l :=
  ⟨h.1, h.2.1, fun h0 => by
    obtain ⟨b, o, e, hb, hg⟩ := h.2.2 h0
    exact ⟨b, o, e, by omega, fun k x hx => hs _ _ (show p b from hp _ e) (hg k x hx)⟩⟩
theorem RulesAt.stay {l : List RuleV} (h : RulesAt w B A n l) (hs : StayOn p w w') (hp : ∀ a, A = some a → p a.block) (hB : B ≤ B') : RulesAt w' B' A n l :=
  (h.sl.stay hs hp hB).rules h.2.1

structure DevOn (p : Nat → Prop) (d : DevV) : Prop where
  b : ∀ a, d.bA = some a → p a.block
  r : ∀ a, d.rA = some a → p a.block
  t : ∀ a, d.tA = some a → p a.block
theorem DevOn.weak {q : Nat → Prop} {d : DevV} (h : DevOn p d) (hq : ∀ k, p k → q k) : DevOn q d := ⟨fun a e => hq _ (h.b a e), fun a e => hq _ (h.r a e), fun a e => hq _ (h.t a e)⟩
theorem DevAt.stay {d : DevV} (h : DevAt w B d) (hs : StayOn p w w') (hp : DevOn p d) (hB : B ≤ B') : DevAt w' B' d :=
  ⟨h.nm, h.kd, h.ad, h.pl, h.bs.stay hs hp.b hB, h.rs.stay hs hp.r hB, h.ts.stay hs hp.t hB, h.tok, h.cb, h.cr, h.ct⟩
theorem NetAt.stay {m : NetV} (h : NetAt w B m) (hs : StayOn p w w') (hd : ∀ a, m.dA = some a → p a.block) (hl : ∀ a, m.lA = some a → p a.block) (ho : ∀ d ∈ m.ds, DevOn p d) (hB : B ≤ B') : NetAt w' B' m :=
  { ds := h.ds.stay hs hd hB, dok := fun d hm => (h.dok d hm).stay hs (ho d hm) hB, ls := h.ls.stay hs hl hB, lok := h.lok, cd := h.cd, cl := h.cl }
end

section
variable {α : Type} {P : Program} {kt : TypeId} {key : α → Value} {dom : α → Prop} {w w' : World} {b c : Nat} {M : α → Option Value}
end
end Go.Proofs.Ytklbdfgblebniaa

set_option linter.unusedVariables false
set_option linter.unusedSimpArgs false
namespace Go.Proofs.Ytklbdfgblebniaa
open Go.ChangeShapes Go.WideShapes Go.ChangeAt Go.RowKit

theorem own_cap {w : World} {base e s m n c : Nat} {A : Option Addr} {xs : List Value} (h : w.ownsRow base e s (.slice A n c) m xs) : c ≤ maxLen := by
  rcases h.2 with ⟨e, _⟩ | ⟨q, cap, cur, e, r⟩
  · simp only [Value.slice.injEq] at e; rw [e.2.2]; exact Nat.zero_le _
  · simp only [Value.slice.injEq] at e; rw [e.2.2]; exact r.2.2.2.1

theorem ints_sl {w : World} {B n : Nat} {A : Option Addr} {l : List Int} (h : IntsAt w B A n l) : SlAt i64Cells 1 w B A n l :=
  ⟨h.1, fun h0 => by
    obtain ⟨b, o, e, hb, hg⟩ := h.2.2 h0
    refine ⟨b, o, e, hb, fun k r hr j v hv => ?_⟩
    match j, hv with
    | 0, hv => cases hv; rw [Nat.mul_one]; exact hg k r hr⟩

def DBoxF (w : World) (N : Nat) (d : DevV) : Prop := DBox w N d ∧ ∀ o, w.frozen? ⟨N, o, none⟩ = false
theorem DBoxF.below {w w' : World} {B N : Nat} {d : DevV} (h : DBoxF w N d) (hB : Below B w w') (hN : N < B) : DBoxF w' N d :=
  ⟨h.1.below hB hN, fun o => (hB.frozen (p := ⟨N, o, none⟩) hN).trans (h.2 o)⟩
theorem DBoxF.new (w : World) (d : DevV) (t : TypeId) : DBoxF (w.alloc (.cells #[.string d.name, .int .i64 d.kind, .int .i64 d.addr, .int .u8 d.pool, .slice d.bA d.bn d.bc, .slice d.rA d.rn d.rc, .slice d.tA d.tn d.tc] t)) w.heap.size d :=
  ⟨DBox.new w d t, fun o => by unfold World.frozen?; rw [heap_alloc_new w _]; simp⟩

theorem sl_ints {w : World} {B n : Nat} {A : Option Addr} {l : List Int} (h : SlAt i64Cells 1 w B A n l) (ho : ∀ x ∈ l, i64ok x) : IntsAt w B A n l :=
  ⟨h.1, ho, fun h0 => by
    obtain ⟨b, o, e, hb, hg⟩ := h.2 h0
    refine ⟨b, o, e, hb, fun k x hx => ?_⟩
    have := hg k x hx 0 _ rfl
    rwa [Nat.mul_one] at this⟩
end Go.Proofs.Ytklbdfgblebniaa

set_option linter.unusedVariables false
set_option linter.unusedSimpArgs false
namespace Go.Proofs.Ytklbdfgblebniaa
open Go.ChangeShapes Go.WideShapes Go.ChangeAt Go.RowKit

def set3 (w : World) (N : Nat) (u v t : Value) : World := ((w.setCell ⟨N, 4, none⟩ u).setCell ⟨N, 5, none⟩ v).setCell ⟨N, 6, none⟩ t
theorem set3_size (w : World) (N : Nat) (u v t : Value) : (set3 w N u v t).heap.size = w.heap.size := by simp [set3, World.setCell]
theorem DBoxF.set3 {w : World} {N : Nat} {d : DevV} (h : DBoxF w N d) (B1 B2 B3 : Option Addr) (n1 n2 n3 e1 e2 e3 : Nat) (b : List Int) (r : List RuleV) (t : List RouteV) :
    DBoxF (set3 w N (.slice B1 n1 e1) (.slice B2 n2 e2) (.slice B3 n3 e3)) N ⟨d.name, d.kind, d.addr, d.pool, B1, n1, e1, b, B2, n2, e2, r, B3, n3, e3, t⟩ := by
  obtain ⟨⟨x0, x1, x2, x3, x4, x5, x6⟩, xf⟩ := h
  have o : ∀ (w : World) (a b : Nat) (u v : Value), b ≠ a → w.cell? ⟨N, b, none⟩ = some u → (w.setCell ⟨N, a, none⟩ v).cell? ⟨N, b, none⟩ = some u := fun w a b u v hne hu => by
    rw [World.cell?_setCell_other _ _ _ _ (by simp [hne])]; exact hu
  have s : ∀ (w : World) (a : Nat) (u v : Value), w.cell? ⟨N, a, none⟩ = some u → (w.setCell ⟨N, a, none⟩ v).cell? ⟨N, a, none⟩ = some v := fun w a u v hu => World.cell?_setCell_same _ _ _ hu
  unfold Go.Proofs.Ytklbdfgblebniaa.set3
  refine ⟨⟨?_, ?_, ?_, ?_, ?_, ?_, ?_⟩, fun q => by rw [World.frozen?_setCell, World.frozen?_setCell, World.frozen?_setCell]; exact xf q⟩
  · exact o _ _ _ _ _ (by omega) (o _ _ _ _ _ (by omega) (o _ _ _ _ _ (by omega) x0))
  · exact o _ _ _ _ _ (by omega) (o _ _ _ _ _ (by omega) (o _ _ _ _ _ (by omega) x1))
  · exact o _ _ _ _ _ (by omega) (o _ _ _ _ _ (by omega) (o _ _ _ _ _ (by omega) x2))
  · exact o _ _ _ _ _ (by omega) (o _ _ _ _ _ (by omega) (o _ _ _ _ _ (by omega) x3))
  · exact o _ _ _ _ _ (by omega) (o _ _ _ _ _ (by omega) (s _ _ _ _ x4))
  · exact o _ _ _ _ _ (by omega) (s _ _ _ _ (o _ _ _ _ _ (by omega) x5))
  · exact s _ _ _ _ (o _ _ _ _ _ (by omega) (o _ _ _ _ _ (by omega) x6))
theorem set3_stay (w : World) (N : Nat) (u v t : Value) : StayOn (fun q => q ≠ N) w (set3 w N u v t) :=
  ((StayOn.of_set ⟨N, 4, none⟩ u).trans (StayOn.of_set ⟨N, 5, none⟩ v)).trans (StayOn.of_set ⟨N, 6, none⟩ t)
theorem set3_below {w w' : World} {B N : Nat} (h : Below B w w') (hN : B ≤ N) (u v t : Value) : Below B w (set3 w' N u v t) :=
  ((h.setCell (by exact hN) _).setCell (by exact hN) _).setCell (by exact hN) _

end Go.Proofs.Ytklbdfgblebniaa
