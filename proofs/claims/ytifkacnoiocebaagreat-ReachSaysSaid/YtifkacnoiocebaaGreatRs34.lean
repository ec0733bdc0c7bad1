/- A part of the proof: Sp17. -/
import Derived.Test.YtifkacnoiocebaaGreatRs33
set_option linter.unusedVariables false
set_option linter.unusedSimpArgs false
set_option maxRecDepth 100000
set_option maxHeartbeats 16000000
namespace Go.Proofs.YtifkacnoiocebaaGreat
open Go.Maps Go.RowKit Go.WideElems
section
variable {B nA pS s mb : Nat} {n : NetV} {D : PoK → Prop} {blk : PoK → Nat} {M : PoK → Option Value} {T : PoK → Nat → Int} {w w' : World}
def BSt.Off (nA pS s mb : Nat) (D : PoK → Prop) (blk : PoK → Nat) (b : Nat) : Prop := (∀ y, D y → b ≠ blk y) ∧ b ≠ nA ∧ b ≠ pS ∧ b ≠ s ∧ b ≠ mb
theorem BSt.off (h : BSt B nA pS s mb n D blk M T w) {b : Nat} (hb : w.heap.size ≤ b) : BSt.Off nA pS s mb D blk b := by
  refine ⟨fun y hy e => ?_, fun e => ?_, fun e => ?_, fun e => ?_, fun e => ?_⟩
  · have := (h.tb y hy).2; omega
  · have := (h.fix b (.inl e)).2.1; omega
  · have := (h.fix b (.inr (.inl e))).2.1; omega
  · have := (h.fix b (.inr (.inr (.inl e)))).2.1; omega
  · have := (h.fix b (.inr (.inr (.inr e)))).2.1; omega
theorem BSt.far (h : BSt B nA pS s mb n D blk M T w) (a : Addr) (v : Value) (ho : BSt.Off nA pS s mb D blk a.block) (hB : B ≤ a.block) : BSt B nA pS s mb n D blk M T (w.setCell a v) := by
  have hs : ∀ b, b ≠ a.block → (w.setCell a v).heap[b]? = w.heap[b]? := fun b hb => RowKit.Below.heap_setCell w a v b hb
  have hb : RowKit.Below B w (w.setCell a v) := (RowKit.Below.refl _ _).setCell hB _
  refine ⟨by rw [size_setCell]; exact h.sz, h.net.below hb (Nat.le_refl _), h.nb.same (hs _ (Ne.symm ho.2.1)), h.sp.same (hs _ (Ne.symm ho.2.2.1)), h.st.same ?_, fun x hx o => by rw [World.frozen?_setCell]; exact h.fr x hx o, by rw [World.frozen?_setCell]; exact h.fs, fun b hh => by rw [size_setCell]; exact h.fix b hh, fun x hx => by rw [size_setCell]; exact h.tb x hx, h.ap⟩
  rintro b (rfl | rfl | ⟨x, hx, rfl⟩)
  · exact hs _ (Ne.symm ho.2.2.2.1)
  · exact hs _ (Ne.symm ho.2.2.2.2)
  · exact hs _ (Ne.symm (ho.1 x hx))
end
theorem BSt.start (W : World) (n : NetV) (hn : NetAt W W.heap.size n) : BSt W.heap.size W.heap.size (W.heap.size + 1 + 1 + 1) (W.heap.size + 1 + 1) (W.heap.size + 1) n (PD n.devs 0 0) (fun _ => 0) (fun _ => none) (fun _ _ => -1)
    ((((W.alloc (.cells #[.slice n.dA n.dn n.dc, .slice n.lA n.ln n.lc] 25)).alloc (.map #[] 0)).alloc (.cells #[.int .i64 0, .map (some (W.heap.size + 1))] 44)).alloc (.cells #[.pointer (some ⟨W.heap.size + 1 + 1, 0, none⟩)] 39)) := by
  have b1 := below_alloc2 W (.cells #[.slice n.dA n.dn n.dc, .slice n.lA n.ln n.lc] 25)
  have x1 := BoxV.new W #[.slice n.dA n.dn n.dc, .slice n.lA n.ln n.lc] 25
  have z1 : (W.alloc (.cells #[.slice n.dA n.dn n.dc, .slice n.lA n.ln n.lc] 25)).heap.size = W.heap.size + 1 := by simp
  generalize W.alloc (.cells #[.slice n.dA n.dn n.dc, .slice n.lA n.ln n.lc] 25) = W1 at *
  have b2 := below_alloc2 W1 (.map #[] 0)
  have m2 := MapIs.made (P := Tryz.prog) (kt := 27) (key := poVal) (dom := poDom) W1
  have z2 : (W1.alloc (.map #[] 0)).heap.size = W.heap.size + 2 := by simp [z1]
  rw [z1] at m2
  generalize W1.alloc (.map #[] 0) = W2 at *
  have b3 := below_alloc2 W2 (.cells #[.int .i64 0, .map (some (W.heap.size + 1))] 44)
  have x3 := BoxV.new W2 #[.int .i64 0, .map (some (W.heap.size + 1))] 44
  have z3 : (W2.alloc (.cells #[.int .i64 0, .map (some (W.heap.size + 1))] 44)).heap.size = W.heap.size + 3 := by simp [z2]
  rw [z2] at x3
  generalize W2.alloc (.cells #[.int .i64 0, .map (some (W.heap.size + 1))] 44) = W3 at *
  have b4 := below_alloc2 W3 (.cells #[.pointer (some ⟨W.heap.size + 1 + 1, 0, none⟩)] 39)
  have x4 := BoxV.new W3 #[.pointer (some ⟨W.heap.size + 1 + 1, 0, none⟩)] 39
  have z4 : (W3.alloc (.cells #[.pointer (some ⟨W.heap.size + 1 + 1, 0, none⟩)] 39)).heap.size = W.heap.size + 4 := by simp [z3]
  rw [z3] at x4
  generalize W3.alloc (.cells #[.pointer (some ⟨W.heap.size + 1 + 1, 0, none⟩)] 39) = W4 at *
  rw [z1] at b2
  rw [z2] at b3
  rw [z3] at b4
  have c24 := b3.trans (b4.mono (by omega : W.heap.size + 2 ≤ W.heap.size + 3))
  have c14 := b2.trans (c24.mono (by omega : W.heap.size + 1 ≤ W.heap.size + 2))
  have c04 := b1.trans (c14.mono (by omega : W.heap.size ≤ W.heap.size + 1))
  have y3 := x3.below b4 (by omega)
  refine ⟨by omega, hn.below c04 (Nat.le_refl _), x1.below c14 (by omega), x4, ⟨y3.1 0 _ rfl, y3.1 1 _ rfl, m2.same (c24.block _ (by omega)), fun x h => absurd h (PD.zero x), fun x _ => rfl, fun x h => absurd h (PD.zero x), fun x y h => absurd h (PD.zero x), fun x h => absurd h (PD.zero x), by omega⟩,
    fun x h => absurd h (PD.zero x), y3.2 0, fun b hb => ⟨by omega, by omega, fun x h => absurd h (PD.zero x)⟩, fun x h => absurd h (PD.zero x), ⟨by omega, by omega, by omega, by omega⟩⟩
theorem made_ints (n : Nat) : madeCells (Value.int .i64 0).cells n = ((List.range n).map fun _ => Value.int .i64 0).toArray := by
  apply Array.ext
  · simp [madeCells]
  · intro i h1 h2
    simp [madeCells, Value.cells, Nat.mod_one]
theorem Tryz.infoInt64 : (Tryz.prog.info? 3).map (fun i => (i.zero, i.size, i.bytes)) = some (some (.int .i64 0), 1, 8) := by kernel_rfl
theorem run_ints (w : World) : (Instr.makeSlice 55 (.int .i64 16384) (.int .i64 16384)).run Tryz.prog w = .ok (.slice (some ⟨w.heap.size, 0, none⟩) 16384 16384) (w.alloc (.cells (madeCells (Value.int .i64 0).cells 16384) 3)) := by
  obtain ⟨i0, hi0, hz0, hz1, hz2⟩ := info_parts Tryz.infoInt64
  have h := run_makeSlice (P := Tryz.prog) w 55 3 i0 _ Tryz.underlying55 hi0 hz0 .i64 .i64 16384 16384 (by omega) (Int.le_refl _) (by rw [hz1]; omega) (by rw [hz2]; omega) (by omega)
  rw [h, hz1]
  rfl
theorem T16.made {w : World} {N : Nat} {t : TypeId} (h : Bx w N (madeCells (Value.int .i64 0).cells 16384) t) : T16 w N (fun _ => 0) := fun c hc => h.get c _ (by rw [made_ints]; simp [hc])
theorem T16.set {w : World} {b : Nat} {T : Nat → Int} (h : T16 w b T) {c : Nat} (hc : c < 16384) (v : Int) : T16 (w.setCell ⟨b, c, none⟩ (.int .i64 v)) b (fun d => if d = c then v else T d) := fun d hd => by
  by_cases e : d = c
  · subst e
    rw [World.cell?_setCell_same _ _ _ (h d hd)]
    simp
  · rw [World.cell?_setCell_other _ _ _ _ (by intro q; cases q; exact e rfl), h d hd]
    simp [e]
def DevAny : Prop := ∀ (E : SE) (hE : E.Ok) (w : World) (Dn : PoK → Nat → Prop) (h : SP E Dn w) (i : Nat) (d : DevV) (hd : E.n.ds[i]? = some d) (hok : DevOk d.dev) (hPD : ∀ p : Nat, (p : Int) < portsF d.kind → E.D ((i : Int), (p : Int))),
    Calls Tryz.prog 34 #[.pointer (some ⟨E.s, 0, none⟩), .agg #[.slice E.n.dA E.n.dn E.n.dc, .slice E.n.lA E.n.ln E.n.lc], .int .i64 (i : Int), .int .i64 (E.k : Int), .func (.func 32) #[] #[.pointer (some ⟨E.nA, 0, none⟩), .pointer (some ⟨E.pS, 0, none⟩), .pointer (some ⟨E.kA, 0, none⟩), .pointer (some ⟨E.mA, 0, none⟩)]] w fun e w' => e = .returned (.tuple #[]) ∧ SP E (DevTold E.n.devs E.n.ls E.k i d.dev Dn) w' ∧ KC E.C w w'
def SpreadP (n : NetV) (W : World) (e : Ending) (W' : World) : Prop := ∃ (s mb : Nat) (blk : PoK → Nat) (M : PoK → Option Value) (K : Nat), e = .returned (.pointer (some ⟨s, 0, none⟩)) ∧ RowKit.Below W.heap.size W W' ∧ SetsAt W' s mb (K : Int) (PD n.devs n.devs.length 0) blk (tabF n.devs n.ls K) M ∧ roundS n.devs n.ls (K + 1) = roundS n.devs n.ls K ∧ ∀ j, j < K → roundS n.devs n.ls (j + 1) ≠ roundS n.devs n.ls j
theorem SP.cells {E : SE} {Dn : PoK → Nat → Prop} {w : World} (h : SP E Dn w) : w.cell? ⟨E.nA, 0, none⟩ = some (.slice E.n.dA E.n.dn E.n.dc) ∧ w.cell? ⟨E.nA, 1, none⟩ = some (.slice E.n.lA E.n.ln E.n.lc) ∧ w.cell? ⟨E.pS, 0, none⟩ = some (.pointer (some ⟨E.s, 0, none⟩)) ∧ w.cell? ⟨E.kA, 0, none⟩ = some (.int .i64 (E.k : Int)) := by
  obtain ⟨T, more, h1, _⟩ := h
  exact ⟨h1.nb.1 0 _ rfl, h1.nb.1 1 _ rfl, h1.sp.1 0 _ rfl, h1.kk.1 0 _ rfl⟩
theorem SetsAt.setRd {w : World} {s mb : Nat} {rd : Int} {D : PoK → Prop} {blk : PoK → Nat} {T : PoK → Nat → Int} {M : PoK → Option Value} (h : SetsAt w s mb rd D blk T M) (v : Int) : SetsAt (w.setCell ⟨s, 0, none⟩ (.int .i64 v)) s mb v D blk T M := by
  have ho : ∀ b, b ≠ s → (w.setCell ⟨s, 0, none⟩ (.int .i64 v)).heap[b]? = w.heap[b]? := fun b hb => RowKit.Below.heap_setCell w _ _ b hb
  refine ⟨World.cell?_setCell_same _ _ _ h.c0, ?_, h.mp.same (ho mb (Ne.symm h.nsm)), h.val, h.no, fun x hx c hc => ?_, h.inj, h.ne, h.nsm⟩
  · rw [World.cell?_setCell_other _ _ _ _ (by intro q; cases q)]
    exact h.c1
  · rw [World.cell?_of_block (a := ⟨blk x, c, none⟩) (ho _ (h.ne x hx).1)]
    exact h.tab x hx c hc
theorem H0.next {ds : List Dev} {ls : List LinkV} {I : Nat} {d : Dev} (hd : ds[I]? = some d) (h : d.kind ≠ 1 ∨ peerF ls ((I : Int), 0) = none) {x : PoK} {c : Nat} : H0 ds ls I 0 x c ↔ H0 ds ls (I + 1) 0 x c := by
  constructor
  · rintro ⟨i, e, h1, h2⟩
    exact ⟨i, e, by omega, h2⟩
  · rintro ⟨i, e, h1, h2, h3, h4, h5⟩
    refine ⟨i, e, ?_, h2, h3, h4, h5⟩
    rcases Nat.lt_or_ge i I with hl | hl
    · exact .inl hl
    · obtain rfl : i = I := by omega
      obtain rfl : d = e := Option.some.inj (hd.symm.trans h2)
      rcases h with h | h
      · exact absurd h3 h
      · rw [h] at h4; cases h4
theorem H0.row {ds : List Dev} {ls : List LinkV} {I : Nat} (x : PoK) (c : Nat) : H0 ds ls I 1024 x c ↔ H0 ds ls (I + 1) 0 x c :=
  ⟨fun ⟨i, e, h1, h2⟩ => ⟨i, e, by omega, h2⟩, fun ⟨i, e, h1, h2⟩ => ⟨i, e, by omega, h2⟩⟩
theorem spread_walk (hdev : DevAny) (W : World) (n : NetV) (hn : NetAt W W.heap.size n) (hok : ∀ d ∈ n.devs, DevOk d) (hnk : NetOk n.devs n.ls) :
    Calls Tryz.prog 8 #[.agg #[.slice n.dA n.dn n.dc, .slice n.lA n.ln n.lc]] W (SpreadP n W) := by
  have HN := hide hn
  have HOK := hide hok
  have HNK := hide hnk
  have HDEV := hide hdev
  have hdn : n.dn ≤ 10 := by have := hnk.dl; have := hn.dlen; simp only [NetV.devs, List.length_map] at *; omega
  clear hn hok hnk hdev
  have hmm := @run_makeMap Tryz.prog
  go_enter Tryz.func8, Tryz.ntmps8
  go_wp2_with fail
  have HB0 := hide (BSt.start W n HN.out)
  have HBW := hide (show RowKit.Below W.heap.size W ((((W.alloc (.cells #[.slice n.dA n.dn n.dc, .slice n.lA n.ln n.lc] 25)).alloc (.map #[] 0)).alloc (.cells #[.int .i64 0, .map (some (W.heap.size + 1))] 44)).alloc (.cells #[.pointer (some ⟨W.heap.size + 1 + 1, 0, none⟩)] 39)) from
    ((((RowKit.Below.refl _ _).alloc (Nat.le_refl _) _).alloc (by simp) _).alloc (by simp; omega) _).alloc (by simp; omega) _)
  clear hmm
  generalize World.alloc (World.alloc (World.alloc (World.alloc W _) _) _) _ = W4 at *
  obtain ⟨nA, hnA⟩ : ∃ nA, W.heap.size = nA := ⟨_, rfl⟩
  obtain ⟨mb, hmb⟩ : ∃ mb, W.heap.size + 1 = mb := ⟨_, rfl⟩
  obtain ⟨s, hs⟩ : ∃ s, W.heap.size + 1 + 1 = s := ⟨_, rfl⟩
  obtain ⟨pS, hpS⟩ : ∃ pS, W.heap.size + 1 + 1 + 1 = pS := ⟨_, rfl⟩
  have HB := hide (show BSt W.heap.size nA pS s mb n (PD n.devs 0 0) (fun _ => 0) (fun _ => none) (fun _ _ => -1) W4 from by rw [← hnA, ← hmb, ← hs, ← hpS]; exact HB0.out)
  clear HB0
  simp only [hpS]
  simp only [hs]
  simp only [hmb]
  simp only [hnA]
  clear hnA hmb hs hpS
  obtain ⟨ds, hds⟩ : ∃ ds, n.devs = ds := ⟨_, rfl⟩
  rw [hds] at HB
  have HDS := hide (show ds = n.ds.map DevV.dev ∧ ds.length = n.dn ∧ ds.length ≤ 10 from by
    have h1 := HN.out.dlen
    rw [← hds]
    simp only [NetV.devs, List.length_map]
    exact ⟨by first | trivial | rfl, h1, by omega⟩)
  have HDE := hide hds
  clear hds
  go_loopw [4] (fun iv wr => ∃ I : Nat, I ≤ n.dn ∧ iv = .int .i64 (I : Int) ∧ ∃ (blk : PoK → Nat) (M : PoK → Option Value), Hid (BSt W.heap.size nA pS s mb n (PD ds I 0) blk M (fun _ _ => -1) wr ∧ RowKit.Below W.heap.size W wr)) (fun iv _ => n.dn - (intOf iv).toNat)
  case atStart => exact ⟨0, Nat.zero_le _, rfl, _, _, hide ⟨HB.out, HBW.out⟩⟩
  case round =>
    clear HB HBW
    obtain ⟨I, hI, rfl, blk, M, HB⟩ := hrel
    have n0 : wr.cell? ⟨nA, 0, none⟩ = some (.slice n.dA n.dn n.dc) := HB.out.1.nb.1 0 _ rfl
    by_cases hIl : I < n.dn
    case neg =>
      obtain rfl : I = n.dn := by omega
      as_aux_lemma =>
        have h1 := HDE.out
        subst h1
        have HBX := hide (show BSt W.heap.size nA pS s mb n (PD n.devs n.devs.length 0) blk M (fun _ _ => -1) wr ∧ RowKit.Below W.heap.size W wr from by
          rw [HDS.out.2.1]
          exact HB.out)
        have HT0 := hide (show T0ok n.devs n.ls 0 0 (fun _ _ => -1) from ⟨fun x c _ ⟨i, d, h, _⟩ => by omega, fun _ _ _ _ => rfl⟩)
        clear HB
        have HDD := hide (fun x (hx : PD n.devs n.devs.length 0 x) => hx.dom HDS.out.2.2)
        have HPE := hide (fun x y (h : peerF n.ls x = some y) => show PD n.devs n.devs.length 0 y from PD.place.2 (HNK.out.pl y (peer_mem h)))
        have hn9 : n.ln ≤ 9223372036854775807 := by have := HNK.out.ll; have := HN.out.ls.1; omega
        have hcd := HN.out.cd
        simp only [maxLen] at hcd
        obtain ⟨D, hD⟩ : ∃ D, PD n.devs n.devs.length 0 = D := ⟨_, rfl⟩
        have HDE2 := hide hD
        rw [hD] at HBX HPE HDD
        clear hD
        go_wp2_with fail
        clear n0
        go_loopw [8] (fun iv wr => ∃ I : Nat, I ≤ n.dn ∧ iv = .int .i64 (I : Int) ∧ ∃ T, Hid ((BSt W.heap.size nA pS s mb n D blk M T wr ∧ RowKit.Below W.heap.size W wr) ∧ T0ok n.devs n.ls I 0 T)) (fun iv _ => n.dn - (intOf iv).toNat)
        case atStart => exact ⟨0, Nat.zero_le _, rfl, _, hide ⟨HBX.out, HT0.out⟩⟩
        case round =>
          clear HBX HT0
          obtain ⟨I, hI, rfl, T, HB⟩ := hrel
          have n0 : wr.cell? ⟨nA, 0, none⟩ = some (.slice n.dA n.dn n.dc) := HB.out.1.1.nb.1 0 _ rfl
          have n1 : wr.cell? ⟨nA, 1, none⟩ = some (.slice n.lA n.ln n.lc) := HB.out.1.1.nb.1 1 _ rfl
          by_cases hIl : I < n.dn
          case neg =>
            obtain rfl : I = n.dn := by omega
            as_aux_lemma =>
              have HB3 := hide (show BSt W.heap.size nA pS s mb n D blk M (tabF n.devs n.ls 0) wr ∧ RowKit.Below W.heap.size W wr from ⟨HB.out.1.1.congrT (fun x c _ hc => T0ok.tab (by rw [HDS.out.2.1]; exact HB.out.2) x c hc), HB.out.1.2⟩)
              have HRU := hide (show ∀ d ∈ n.devs, ∀ r ∈ d.rules, r.ok from fun d hd => by
                simp only [NetV.devs, List.mem_map] at hd
                obtain ⟨dv, hdv, rfl⟩ := hd
                exact (HN.out.dok dv hdv).rs.2.1)
              clear HB
              go_wp2_with fail
              clear n0 n1
              have HB4 := hide (show (BSt W.heap.size nA pS s mb n D blk M (tabF n.devs n.ls 0) (wr.alloc (.cells #[.int .i64 0] 3)) ∧ RowKit.Below W.heap.size W (wr.alloc (.cells #[.int .i64 0] 3))) ∧ BoxV (wr.alloc (.cells #[.int .i64 0] 3)) wr.heap.size #[.int .i64 ((0 : Nat) : Int)] ∧ (W.heap.size ≤ wr.heap.size ∧ wr.heap.size < (wr.alloc (.cells #[.int .i64 0] 3)).heap.size ∧ BSt.Off nA pS s mb D blk wr.heap.size) ∧ ∀ j, j < 0 → roundS n.devs n.ls (j + 1) ≠ roundS n.devs n.ls j from
                ⟨⟨HB3.out.1.below (below_alloc2 wr _), HB3.out.2.trans ((below_alloc2 wr _).mono HB3.out.1.sz)⟩, BoxV.new wr _ _, ⟨HB3.out.1.sz, by simp, HB3.out.1.off (Nat.le_refl _)⟩, fun j h => absurd h (Nat.not_lt_zero _)⟩)
              clear HB3
              generalize World.alloc wr _ = w5 at *
              generalize wr.heap.size = kA0 at *
              go_loopg [12] ((endsOf n.ls).length * 16384 - cntS (roundS n.devs n.ls 0) (endsOf n.ls)) (fun m kv wr => ∃ (k kA : Nat), kv = .pointer (some ⟨kA, 0, none⟩) ∧ Hid (m = (endsOf n.ls).length * 16384 - cntS (roundS n.devs n.ls k) (endsOf n.ls)) ∧ Hid (k + m ≤ 491520) ∧ Hid ((BSt W.heap.size nA pS s mb n D blk M (tabF n.devs n.ls k) wr ∧ RowKit.Below W.heap.size W wr) ∧ BoxV wr kA #[.int .i64 (k : Int)] ∧ (W.heap.size ≤ kA ∧ kA < wr.heap.size ∧ BSt.Off nA pS s mb D blk kA) ∧ ∀ j, j < k → roundS n.devs n.ls (j + 1) ≠ roundS n.devs n.ls j))
              case atStart => exact ⟨0, kA0, rfl, hide rfl, hide (by have h1 := HNK.out.ll; have h2 := ends_len n.ls; omega), HB4⟩
              case round =>
                clear HB4
                obtain ⟨k, kA, rfl, HMU, HKM, HB⟩ := hrel
                go_wp2_with fail
                have hk9 : k ≤ 491520 := by have := HKM.out; omega
                have HX := hide (show (BSt W.heap.size nA pS s mb n D blk M (tabF n.devs n.ls k) (wr.alloc (.cells #[.bool false] 4)) ∧ RowKit.Below W.heap.size W (wr.alloc (.cells #[.bool false] 4))) ∧ BoxV (wr.alloc (.cells #[.bool false] 4)) kA #[.int .i64 (k : Int)] ∧ BoxV (wr.alloc (.cells #[.bool false] 4)) wr.heap.size #[.bool false] ∧ (W.heap.size ≤ wr.heap.size ∧ wr.heap.size < (wr.alloc (.cells #[.bool false] 4)).heap.size ∧ BSt.Off nA pS s mb D blk wr.heap.size) ∧ kA < wr.heap.size from
                  ⟨⟨HB.out.1.1.below (below_alloc2 wr _), HB.out.1.2.trans ((below_alloc2 wr _).mono HB.out.1.1.sz)⟩, HB.out.2.1.below (below_alloc2 wr _) HB.out.2.2.1.2.1, BoxV.new wr _ _, ⟨HB.out.1.1.sz, by simp, HB.out.1.1.off (Nat.le_refl _)⟩, HB.out.2.2.1.2.1⟩)
                have HKA := hide HB.out.2.2
                clear HB
                generalize World.alloc wr _ = w6 at *
                generalize wr.heap.size = mA at *
                obtain ⟨E, hE⟩ : ∃ E, mkE W.heap.size w6.heap.size nA pS kA mA s mb n k D blk M = E := ⟨_, rfl⟩
                have HEO := hide (show E.Ok from by
                  rw [← hE]
                  exact HX.out.1.1.ok ⟨HKA.out.1.1, by have h1 := HX.out.2.2.2.2; have h2 := HX.out.2.2.2.1.2.1; omega, Nat.ne_of_lt HX.out.2.2.2.2, fun x hx => HKA.out.1.2.2.1 x hx⟩ ⟨HX.out.2.2.2.1.1, HX.out.2.2.2.1.2.1, HX.out.2.2.2.1.2.2⟩ HNK.out.ll (fun x y h => HPE.out x y h) (fun x hx => HDD.out x hx) (by omega))
                have HSP := hide (show SP E (fun _ _ => False) w6 from by
                  rw [← hE]
                  exact ⟨_, false, HX.out.1.1.pst HX.out.2.1 HX.out.2.2.1, InvT.start _ _⟩)
                have HEE := hide hE
                have HEn := hide (show E.n = n ∧ E.k = k ∧ E.nA = nA ∧ E.pS = pS ∧ E.kA = kA ∧ E.mA = mA ∧ E.s = s ∧ E.D = D from by rw [← hE]; exact ⟨rfl, rfl, rfl, rfl, rfl, rfl, rfl, rfl⟩)
                clear hE
                go_loopw [15] (fun iv wr => ∃ I : Nat, I ≤ n.dn ∧ iv = .int .i64 (I : Int) ∧ Hid (SP E (ToldI n.devs n.ls k I) wr ∧ KC E.C w6 wr)) (fun iv _ => n.dn - (intOf iv).toNat)
                case atStart => exact ⟨0, Nat.zero_le _, rfl, hide ⟨HSP.out.congr (fun x c _ => ToldI.zero x c), KC.refl _ _⟩⟩
                case round =>
                  clear HSP
                  obtain ⟨I, hI, rfl, HS⟩ := hrel
                  have hc5 := HS.out.1.cells
                  rw [HEn.out.1, HEn.out.2.1, HEn.out.2.2.1, HEn.out.2.2.2.1, HEn.out.2.2.2.2.1, HEn.out.2.2.2.2.2.2.1] at hc5
                  obtain ⟨n0, n1, p0, k0⟩ := hc5
                  by_cases hIl : I < n.dn
                  case pos =>
                    obtain ⟨r, hr⟩ : ∃ r, n.ds[I]? = some r := ⟨_, List.getElem?_eq_getElem (by have := HN.out.dlen; omega)⟩
                    have hdi : n.devs[I]? = some r.dev := by simp only [NetV.devs, List.getElem?_map, hr, Option.map_some]
                    have HDI := hide hdi
                    have hdc := HDEV.out E HEO.out wr _ HS.out.1 I r (by rw [HEn.out.1]; exact hr) (HOK.out r.dev (List.mem_of_getElem? hdi)) (fun p hp => by rw [HEn.out.2.2.2.2.2.2.2, ← HDE2.out]; exact PD.all hdi hp)
                    rw [HEn.out.1, HEn.out.2.1, HEn.out.2.2.1, HEn.out.2.2.2.1, HEn.out.2.2.2.2.1, HEn.out.2.2.2.2.2.1, HEn.out.2.2.2.2.2.2.1] at hdc
                    have HDC := hide hdc
                    clear hdc hr hdi
                    go_wp2_with fail
                    clear n0 n1 p0 k0
                    refine HDC.out.mono ?_
                    clear HDC
                    rintro e w7 ⟨rfl, hsp, hkc⟩
                    have HS7 := hide (show SP E (ToldI n.devs n.ls k (I + 1)) w7 ∧ KC E.C w6 w7 from ⟨hsp.congr (fun x c _ => ToldI.step HDI.out x c), HS.out.2.trans hkc⟩)
                    clear hsp hkc HS
                    go_wp2_with fail
                    go_roundw
                    case rel => exact ⟨I + 1, by omega, by go_num, HS7⟩
                    case measure => simp [intOf]; omega
                  case neg =>
                    obtain rfl : I = n.dn := by omega
                    obtain ⟨T, more, hps, hin⟩ := HS.out.1
                    rw [← HDS.out.2.1] at hin
                    rw [HEn.out.1, HEn.out.2.1] at hin
                    have HIN := hide hin
                    have HBT := hide (show BSt W.heap.size nA pS s mb n D blk M T wr ∧ RowKit.Below W.heap.size W wr ∧ BoxV wr kA #[.int .i64 (k : Int)] ∧ BoxV wr mA #[.bool more] ∧ w6.heap.size ≤ wr.heap.size from by
                      have h1 : w6.heap.size ≤ wr.heap.size := HS.out.2.size
                      have h2 : ∀ b, b = nA ∨ b = pS ∨ b = kA ∨ b = s ∨ b = mb → ¬ E.C b := fun b hb => (HEO.out.fix b (by rw [← HEE.out]; exact hb)).2.2
                      have h3 : wr.heap[s]? = w6.heap[s]? := HS.out.2.same s (HX.out.1.1.fix s (.inr (.inr (.inl rfl)))).2.1 (h2 s (.inr (.inr (.inr (.inl rfl)))))
                      have h4 := hps
                      rw [← HEE.out] at h4
                      refine ⟨h4.bst HX.out.1.1 h1 ((World.frozen?_of_block (a := ⟨s, 0, none⟩) h3).trans HX.out.1.1.fs), ?_, h4.kk, h4.mo, h1⟩
                      exact HX.out.1.2.trans (HS.out.2.to HX.out.1.1.sz (fun b hb => by have := (HEO.out.cge b hb).1; rw [← HEE.out] at this; exact this)))
                    have m0 : wr.cell? ⟨mA, 0, none⟩ = some (.bool more) := HBT.out.2.2.2.1.1 0 _ rfl
                    clear hps hin HS
                    cases more
                    case false =>
                      have s0 : wr.cell? ⟨s, 0, none⟩ = some (.int .i64 0) := HBT.out.1.st.c0
                      have s1 : wr.frozen? ⟨s, 0, none⟩ = false := HBT.out.1.fs
                      have hns : pS ≠ s := HBT.out.1.ap.2.1
                      have hsn : s ≠ pS := Ne.symm hns
                      have hl := HIN.out.last HOK.out HRU.out
                      have HFI := hide (show SpreadP n W (.returned (.pointer (some ⟨s, 0, none⟩))) (wr.setCell ⟨s, 0, none⟩ (.int .i64 (k : Int))) from
                        ⟨s, mb, blk, M, k, rfl, HBT.out.2.1.setCell (HBT.out.1.fix s (.inr (.inr (.inl rfl)))).1 _, by
                          rw [HDE2.out]
                          exact (HBT.out.1.st.congrT (fun x c _ hc => hl.2 x c hc)).setRd (k : Int), hl.1, HKA.out.2⟩)
                      clear hl
                      go_wp2_with fail
                      go_ret
                      exact HFI.out
                    case true =>
                      have hm := HIN.out.more HOK.out HRU.out
                      have hmx := cntS_max (roundS n.devs n.ls (k + 1)) (endsOf n.ls)
                      have hmu := HMU.out
                      have hkm := HKM.out
                      have HG := hide (show (endsOf n.ls).length * 16384 - cntS (roundS n.devs n.ls (k + 1)) (endsOf n.ls) < gk ∧ k + 1 + ((endsOf n.ls).length * 16384 - cntS (roundS n.devs n.ls (k + 1)) (endsOf n.ls)) ≤ 491520 from by omega)
                      have HNX := hide (show ((BSt W.heap.size nA pS s mb n D blk M (tabF n.devs n.ls (k + 1)) (wr.alloc (.cells #[.int .i64 ((k + 1 : Nat) : Int)] 3)) ∧ RowKit.Below W.heap.size W (wr.alloc (.cells #[.int .i64 ((k + 1 : Nat) : Int)] 3))) ∧ BoxV (wr.alloc (.cells #[.int .i64 ((k + 1 : Nat) : Int)] 3)) wr.heap.size #[.int .i64 ((k + 1 : Nat) : Int)] ∧ (W.heap.size ≤ wr.heap.size ∧ wr.heap.size < (wr.alloc (.cells #[.int .i64 ((k + 1 : Nat) : Int)] 3)).heap.size ∧ BSt.Off nA pS s mb D blk wr.heap.size) ∧ ∀ j, j < k + 1 → roundS n.devs n.ls (j + 1) ≠ roundS n.devs n.ls j) from
                        ⟨⟨(HBT.out.1.congrT (fun x c _ hc => HIN.out.next HOK.out HRU.out x c hc)).below (below_alloc2 wr _), HBT.out.2.1.trans ((below_alloc2 wr _).mono HBT.out.1.sz)⟩, BoxV.new wr _ _, ⟨HBT.out.1.sz, by simp, HBT.out.1.off (Nat.le_refl _)⟩, fun j hj => by
                          rcases Nat.lt_succ_iff_lt_or_eq.1 hj with a | rfl
                          · exact HKA.out.2 j a
                          · exact hm.1⟩)
                      clear hm hmx hmu hkm
                      go_wp2_with fail
                      go_roundg ((endsOf n.ls).length * 16384 - cntS (roundS n.devs n.ls (k + 1)) (endsOf n.ls))
                      case measure => exact HG.out.1
                      case rel => exact ⟨k + 1, _, rfl, hide rfl, hide HG.out.2, HNX⟩
          case pos =>
            as_aux_lemma =>
              have hIi : (I : Int) < n.dn := by omega
              obtain ⟨r, hr⟩ : ∃ r, n.ds[I]? = some r := ⟨_, List.getElem?_eq_getElem (by have := HN.out.dlen; omega)⟩
              have HDI := hide (show n.devs[I]? = some r.dev from by simp only [NetV.devs, List.getElem?_map, hr, Option.map_some])
              obtain ⟨db, dof, hdA, hdbl, _⟩ := HB.out.1.1.net.ds.2 (by omega)
              have q1 := (dev_get (hdA ▸ HB.out.1.1.net.ds) hr).2.2.1
              have q2 := (dev_get (hdA ▸ HB.out.1.1.net.ds) hr).2.2.2.1
              have HPC := hide (refPeer_any n.dA n.dn n.dc n.lA n.ln n.lc n.ls (I : Int) 0 wr hn9 (HB.out.1.1.net.ls.below (RowKit.Below.refl _ _) HB.out.1.1.sz))
              rw [hdA] at HPC n0
              have HQ1 := hide (show (∀ w', RowKit.Below wr.heap.size wr w' → w'.cell? ⟨db, dof + I * 7 + 1, none⟩ = some (.int .i64 r.kind) ∧ w'.cell? ⟨db, dof + I * 7 + 2, none⟩ = some (.int .i64 r.addr)) from fun w' hb => ⟨(hb.cell (p := ⟨db, dof + I * 7 + 1, none⟩) (Nat.lt_of_lt_of_le hdbl HB.out.1.1.sz)).trans q1, (hb.cell (p := ⟨db, dof + I * 7 + 2, none⟩) (Nat.lt_of_lt_of_le hdbl HB.out.1.1.sz)).trans q2⟩)
              have HDA := hide hdA
              have HKO := hide (HOK.out r.dev (List.mem_of_getElem? HDI.out))
              obtain ⟨PE, hPE⟩ : ∃ PE, peerF n.ls ((I : Int), 0) = PE := ⟨_, rfl⟩
              rw [hPE] at HPC
              have HPF := hide hPE
              clear q1 q2 hr hdbl hPE hdA
              go_wp2_with fail
              clear n0 n1
              refine HPC.out.mono ?_
              clear HPC
              rintro e w3 ⟨rfl, hb3⟩
              have HB3 := hide hb3
              clear hb3
              cases PE with
              | none =>
                simp only [peerV]
                have HB4 := hide (HB3.out.trans ((below_alloc2 w3 (.cells #[.int .i64 0, .int .i64 0] 27)).mono HB3.out.size))
                have HB8 := hide (show BSt W.heap.size nA pS s mb n D blk M T _ ∧ RowKit.Below W.heap.size W _ from ⟨HB.out.1.1.below HB4.out, HB.out.1.2.trans (HB4.out.mono HB.out.1.1.sz)⟩)
                have HB9 := hide (And.intro HB8.out (HB.out.2.congr (fun x c hc => H0.next HDI.out (.inr (by rw [HPF.out])))))
                go_wp2_with fail
                go_roundw
                case rel => exact ⟨I + 1, by omega, by go_num, _, HB9⟩
                case measure => simp [intOf]; omega
              | some y =>
                obtain ⟨y1, y2⟩ := y
                simp only [peerV]
                have HB4 := hide (HB3.out.trans ((below_alloc2 w3 (.cells #[.int .i64 y1, .int .i64 y2] 27)).mono HB3.out.size))
                have HB8 := hide (show BSt W.heap.size nA pS s mb n D blk M T (w3.alloc (.cells #[.int .i64 y1, .int .i64 y2] 27)) ∧ RowKit.Below W.heap.size W (w3.alloc (.cells #[.int .i64 y1, .int .i64 y2] 27)) from ⟨HB.out.1.1.below HB4.out, HB.out.1.2.trans (HB4.out.mono HB.out.1.1.sz)⟩)
                have n0 : (w3.alloc (.cells #[.int .i64 y1, .int .i64 y2] 27)).cell? ⟨nA, 0, none⟩ = some (.slice (some ⟨db, dof, none⟩) n.dn n.dc) := by rw [← HDA.out]; exact HB8.out.1.nb.1 0 _ rfl
                have k1 := (HQ1.out _ HB4.out).1
                by_cases hk : r.kind = 1
                case neg =>
                  have hke : (r.kind == 1) = false := by simpa using hk
                  have HB9 := hide (And.intro HB8.out (HB.out.2.congr (fun x c hc => H0.next HDI.out (.inl (by show r.kind ≠ 1; exact hk)))))
                  go_wp2_with fail
                  go_roundw
                  case rel => exact ⟨I + 1, by omega, by go_num, _, HB9⟩
                  case measure => simp [intOf]; omega
                case pos =>
                  have ha := HKO.out.addr16 (.inl hk)
                  obtain ⟨an, han⟩ : ∃ an : Nat, r.addr = (an : Int) := ⟨r.addr.toNat, by have h1 : 0 ≤ r.addr := ha.1; omega⟩
                  have hk1 := hk
                  rw [hk] at k1
                  have HAN := hide (show r.addr = (an : Int) ∧ an < 16 from ⟨han, by have h1 : r.addr < 16 := ha.2; omega⟩)
                  have HK1 := hide hk1
                  have han16 : an < 16 := HAN.out.2
                  clear ha hk hk1 han
                  go_wp2_with fail
                  clear n0 k1
                  have HY := hide (And.intro (BoxV.new w3 #[.int .i64 y1, .int .i64 y2] 27) (show w3.heap.size < (w3.alloc (.cells #[.int .i64 y1, .int .i64 y2] 27)).heap.size from by simp))
                  have HYO := hide (And.intro ((HB.out.1.1.below HB3.out).off (Nat.le_refl _)) (Nat.le_trans HB.out.1.1.sz HB3.out.size))
                  have HYD := hide (HPE.out _ _ HPF.out)
                  have HYM := hide (HDD.out _ HYD.out)
                  have HAD := hide (show db < wr.heap.size from by
                    have := (HQ1.out wr (RowKit.Below.refl _ _)).1
                    exact cell_lt this)
                  generalize World.alloc w3 _ = w5 at *
                  generalize w3.heap.size = N at *
                  go_loopw [11] (fun cv wr => ∃ c : Nat, c ≤ 1024 ∧ cv = .int .i64 (c : Int) ∧ ∃ T, Hid ((BSt W.heap.size nA pS s mb n D blk M T wr ∧ RowKit.Below W.heap.size W wr) ∧ T0ok n.devs n.ls I c T ∧ BoxV wr N #[.int .i64 y1, .int .i64 y2])) (fun cv _ => 1024 - (intOf cv).toNat)
                  case atStart => exact ⟨0, by omega, rfl, _, hide ⟨HB8.out, HB.out.2, HY.out.1⟩⟩
                  case round =>
                    clear HB HB8 HY HB4 HB3 HAD HQ1
                    obtain ⟨c, hc, rfl, T, HB⟩ := hrel
                    by_cases hcl : c < 1024
                    case neg =>
                      obtain rfl : c = 1024 := by omega
                      have HB9 := hide (show (BSt W.heap.size nA pS s mb n D blk M T wr ∧ RowKit.Below W.heap.size W wr) ∧ T0ok n.devs n.ls (I + 1) 0 T from ⟨HB.out.1, HB.out.2.1.congr (fun x c hc => H0.row x c)⟩)
                      go_wp2_with fail
                      go_roundw
                      case rel => exact ⟨I + 1, by omega, by go_num, _, HB9⟩
                      case measure => simp [intOf]; omega
                    case pos =>
                      go_wp2_with fail
                      obtain ⟨r', hr'⟩ : ∃ r', n.ds[I]? = some r' := ⟨_, List.getElem?_eq_getElem (by have := HN.out.dlen; omega)⟩
                      have q2 := (dev_get (HDA.out ▸ HB.out.1.1.net.ds) hr').2.2.2.1
                      have hrr : r'.addr = (an : Int) := by
                        have h1 : n.devs[I]? = some r'.dev := by simp only [NetV.devs, List.getElem?_map, hr', Option.map_some]
                        have h2 := Option.some.inj (HDI.out.symm.trans h1)
                        have h3 : r.addr = r'.addr := congrArg Dev.addr h2
                        rw [← h3]
                        exact HAN.out.1
                      rw [hrr] at q2
                      clear hrr hr' r'
                      have hco : an * 1024 + c < 16384 := by have := HAN.out.2; omega
                      have n0 : wr.cell? ⟨nA, 0, none⟩ = some (.slice (some ⟨db, dof, none⟩) n.dn n.dc) := by rw [← HDA.out]; exact HB.out.1.1.nb.1 0 _ rfl
                      have HLK := hide (fun (w' : World) (h : BSt W.heap.size nA pS s mb n D blk M T w') => show (Instr.lookup 42 (.map (some mb)) (.agg #[.int .i64 y1, .int .i64 y2]) false).run Tryz.prog w' = .ok (.slice (some ⟨blk (y1, y2), 0, none⟩) 16384 16384) w' from by
                        have hl := h.st.mp.lookS y1 y2 HYM.out.1 HYM.out.2
                        rw [h.st.val _ HYD.out] at hl
                        exact hl)
                      have hlk := HLK.out wr.drew (HB.out.1.1.below (RowKit.Below.refl _ _).drew)
                      have p0 : wr.cell? ⟨pS, 0, none⟩ = some (.pointer (some ⟨s, 0, none⟩)) := HB.out.1.1.sp.1 0 _ rfl
                      have p1 : wr.cell? ⟨s, 1, none⟩ = some (.map (some mb)) := HB.out.1.1.st.c1
                      have z0 : wr.cell? ⟨N, 0, none⟩ = some (.int .i64 y1) := HB.out.2.2.1 0 _ rfl
                      have z1 : wr.cell? ⟨N, 1, none⟩ = some (.int .i64 y2) := HB.out.2.2.1 1 _ rfl
                      have t0 : wr.cell? ⟨blk (y1, y2), an * 1024 + c, none⟩ = some (.int .i64 (T (y1, y2) (an * 1024 + c))) := HB.out.1.1.st.tab _ HYD.out _ hco
                      have t1 : wr.frozen? ⟨blk (y1, y2), an * 1024 + c, none⟩ = false := HB.out.1.1.fr _ HYD.out _
                      have ht0 : ((an : Int) * 1024 + (c : Int)).toNat = an * 1024 + c := by omega
                      have hm1 : IntKind.i64.wrap ((an : Int) * 1024) = (an : Int) * 1024 := by rw [IntKind.wrap_i64]; omega
                      have hm2 : IntKind.i64.wrap ((an : Int) * 1024 + (c : Int)) = (an : Int) * 1024 + (c : Int) := by rw [IntKind.wrap_i64]; omega
                      have hm3 : (0 : Int) ≤ (an : Int) * 1024 + (c : Int) := by omega
                      have hm4 : (an : Int) * 1024 + (c : Int) < 16384 := by omega
                      generalize T (y1, y2) (an * 1024 + c) = tv at *
                      go_region
                      clear q2 n0 hlk p0 p1 z0 z1 t0 t1 ht0 hm1 hm2 hm3 hm4 HLK
                      have HB6 := hide (show (BSt W.heap.size nA pS s mb n D blk M (updT T (y1, y2) (an * 1024 + c) 0) (wr.setCell ⟨blk (y1, y2), an * 1024 + c, none⟩ (.int .i64 0)).drew ∧ RowKit.Below W.heap.size W (wr.setCell ⟨blk (y1, y2), an * 1024 + c, none⟩ (.int .i64 0)).drew) ∧ T0ok n.devs n.ls I (c + 1) (updT T (y1, y2) (an * 1024 + c) 0) ∧ BoxV (wr.setCell ⟨blk (y1, y2), an * 1024 + c, none⟩ (.int .i64 0)).drew N #[.int .i64 y1, .int .i64 y2] from by
                        refine ⟨⟨(HB.out.1.1.put HYD.out _ hco 0).below (RowKit.Below.refl _ _).drew, (HB.out.1.2.setCell (HB.out.1.1.tb _ HYD.out).1 _).drew⟩, ?_, (HB.out.2.2.far _ _ (Ne.symm (HYO.out.1.1 _ HYD.out))).same rfl⟩
                        have h1 := HB.out.2.1.put HDI.out (show r.dev.kind = 1 from HK1.out) HPF.out hcl
                        have h2 : r.dev.addr.toNat = an := by show r.addr.toNat = an; rw [HAN.out.1]; simp
                        rw [h2] at h1
                        exact h1)
                      clear HB
                      go_wp2_with fail
                      go_roundw
                      case rel => exact ⟨c + 1, by omega, by go_num, _, HB6⟩
                      case measure => simp [intOf]; omega
    case pos =>
      as_aux_lemma =>
        have hIi : (I : Int) < n.dn := by omega
        go_wp2_with fail
        clear n0
        obtain ⟨r, hr⟩ : ∃ r, n.ds[I]? = some r := ⟨_, List.getElem?_eq_getElem (by have := HN.out.dlen; omega)⟩
        have HDI := hide (show ds[I]? = some r.dev from by rw [HDS.out.1, List.getElem?_map, hr]; rfl)
        have HR := hide hr
        obtain ⟨P, hP⟩ : ∃ P : Nat, (P : Int) = portsF r.kind := ⟨(portsF r.kind).toNat, by have := portsF_rng r.kind; omega⟩
        have HPP := hide (And.intro hP (portsF_rng r.kind))
        have hP4 : P ≤ 4 := by have := portsF_rng r.kind; omega
        clear hr hP
        go_loopw [5] (fun kv wr => ∃ K : Nat, K ≤ P ∧ kv = .int .i64 (K : Int) ∧ ∃ (blk : PoK → Nat) (M : PoK → Option Value), Hid (BSt W.heap.size nA pS s mb n (PD ds I K) blk M (fun _ _ => -1) wr ∧ RowKit.Below W.heap.size W wr)) (fun kv _ => P - (intOf kv).toNat)
        case atStart => exact ⟨0, Nat.zero_le _, rfl, _, _, HB⟩
        case round =>
          clear HB
          obtain ⟨K, hK, rfl, blk, M, HB⟩ := hrel
          have n0 : wr.cell? ⟨nA, 0, none⟩ = some (.slice n.dA n.dn n.dc) := HB.out.1.nb.1 0 _ rfl
          obtain ⟨db, dof, hdA, _, _⟩ := HB.out.1.net.ds.2 (by omega)
          have q1 := (dev_get (hdA ▸ HB.out.1.net.ds) HR.out).2.2.1
          rw [hdA] at n0
          have HPO := hide (refPorts_walk r.kind wr)
          rw [← HPP.out.1] at HPO
          have hcd := HN.out.cd
          simp only [maxLen] at hcd
          go_wp2_with fail
          clear n0 q1 hdA
          refine HPO.out.mono ?_
          clear HPO
          rintro e w3 ⟨rfl, hb⟩
          have HB3 := hide (And.intro (HB.out.1.below hb) (HB.out.2.trans (hb.mono HB.out.1.sz)))
          clear hb HB
          by_cases hKl : K < P
          case neg =>
            obtain rfl : K = P := by omega
            have HB4 := hide (And.intro (HB3.out.1.congrD (fun x => PD.row HDI.out HPP.out.1 x)) HB3.out.2)
            go_wp2_with fail
            go_roundw
            case rel => exact ⟨I + 1, by omega, by go_num, _, _, HB4⟩
            case measure => simp [intOf]; omega
          case pos =>
            have hmk := run_ints
            go_wp2_with fail
            clear hmk
            have HB4 := hide (show (BSt W.heap.size nA pS s mb n (PD ds I K) blk M (fun _ _ => -1) (w3.alloc (.cells (madeCells #[.int .i64 0] 16384) 3)) ∧ RowKit.Below W.heap.size W (w3.alloc (.cells (madeCells #[.int .i64 0] 16384) 3))) ∧ T16 (w3.alloc (.cells (madeCells #[.int .i64 0] 16384) 3)) w3.heap.size (fun c => if c < 0 then -1 else 0) ∧ (∀ o, (w3.alloc (.cells (madeCells #[.int .i64 0] 16384) 3)).frozen? ⟨w3.heap.size, o, none⟩ = false) ∧ w3.heap.size < (w3.alloc (.cells (madeCells #[.int .i64 0] 16384) 3)).heap.size from
              ⟨⟨HB3.out.1.below (below_alloc2 w3 _), HB3.out.2.trans ((below_alloc2 w3 _).mono HB3.out.1.sz)⟩, T16.made (Bx.new w3 _ _), fun o => (Bx.new w3 _ _).frozen o, by simp⟩)
            have HOF := hide (And.intro (HB3.out.1.off (Nat.le_refl _)) HB3.out.1.sz)
            clear HB3
            generalize World.alloc w3 _ = w5 at *
            generalize w3.heap.size = b at *
            go_loopw [7] (fun cv wr => ∃ c : Nat, c ≤ 16384 ∧ cv = .int .i64 (c : Int) ∧ Hid ((BSt W.heap.size nA pS s mb n (PD ds I K) blk M (fun _ _ => -1) wr ∧ RowKit.Below W.heap.size W wr) ∧ T16 wr b (fun d => if d < c then -1 else 0) ∧ (∀ o, wr.frozen? ⟨b, o, none⟩ = false) ∧ b < wr.heap.size)) (fun cv _ => 16384 - (intOf cv).toNat)
            case atStart => exact ⟨0, by omega, rfl, HB4⟩
            case round =>
              clear HB4
              obtain ⟨c, hc, rfl, HB⟩ := hrel
              by_cases hcl : c < 16384
              case pos =>
                have t0 : wr.cell? ⟨b, c, none⟩ = some (.int .i64 0) := by
                  have := HB.out.2.1 c hcl
                  simpa using this
                have f0 : wr.frozen? ⟨b, c, none⟩ = false := HB.out.2.2.1 c
                have hci : (c : Int) < 16384 := by omega
                have HB6 := hide (show (BSt W.heap.size nA pS s mb n (PD ds I K) blk M (fun _ _ => -1) (wr.setCell ⟨b, c, none⟩ (.int .i64 (-1))) ∧ RowKit.Below W.heap.size W (wr.setCell ⟨b, c, none⟩ (.int .i64 (-1)))) ∧ T16 (wr.setCell ⟨b, c, none⟩ (.int .i64 (-1))) b (fun d => if d < c + 1 then -1 else 0) ∧ (∀ o, (wr.setCell ⟨b, c, none⟩ (.int .i64 (-1))).frozen? ⟨b, o, none⟩ = false) ∧ b < (wr.setCell ⟨b, c, none⟩ (.int .i64 (-1))).heap.size from
                  ⟨⟨HB.out.1.1.far _ _ HOF.out.1 HOF.out.2, HB.out.1.2.setCell HOF.out.2 _⟩, fun d hd => by
                    have := HB.out.2.1.set hcl (-1) d hd
                    rw [this]
                    by_cases e : d = c
                    · simp [e]
                    · have e2 : (d < c) ↔ (d < c + 1) := by omega
                      simp [e, e2], fun o => by rw [World.frozen?_setCell]; exact HB.out.2.2.1 o, by rw [size_setCell]; exact HB.out.2.2.2⟩)
                go_wp2_with fail
                go_roundw
                case rel => exact ⟨c + 1, by omega, by go_num, HB6⟩
                case measure => simp [intOf]; omega
              case neg =>
                obtain rfl : c = 16384 := by omega
                have hxd : PD ds I (K + 1) ((I : Int), (K : Int)) := (PD.step HDI.out (by show (K : Int) < portsF r.kind; rw [← HPP.out.1]; omega) _).2 (.inr rfl)
                have hdm := hxd.dom HDS.out.2.2
                obtain ⟨w6, hrun, hm6, ht6⟩ := HB.out.1.1.st.mp.storeA placeKeys L44 (by rw [L44_len]; unfold maxLen; omega) (fun y _ hy => by
                  have h1 : PD ds I K y := Classical.byContradiction (fun h => by rw [HB.out.1.1.st.no y h] at hy; cases hy)
                  exact h1.mem HDS.out.2.2) Tryz.underlying42 (a := ((I : Int), (K : Int))) hdm (slV b)
                have HN6 := hide (show BSt W.heap.size nA pS s mb n (PD ds I (K + 1)) (fun y => if y = ((I : Int), (K : Int)) then b else blk y) (putM M ((I : Int), (K : Int)) (slV b)) (fun _ _ => -1) w6 ∧ RowKit.Below W.heap.size W w6 from
                  ⟨(HB.out.1.1.add (x := ((I : Int), (K : Int))) PD.not HB.out.2.2.2 HOF.out.2 HOF.out.1 (fun d hd => by
                    have := HB.out.2.1 d hd
                    rw [this]; simp [hd]) HB.out.2.2.1 hm6 ht6).congrD (fun y => (PD.step HDI.out (by show (K : Int) < portsF r.kind; rw [← HPP.out.1]; omega) y).symm), by
                    have hg := ht6.grown
                    exact HB.out.1.2.grown hg HB.out.1.1.sz (fun k e => by cases e; exact (HB.out.1.1.fix mb (.inr (.inr (.inr rfl)))).1)⟩)
                have p0 : wr.cell? ⟨pS, 0, none⟩ = some (.pointer (some ⟨s, 0, none⟩)) := HB.out.1.1.sp.1 0 _ rfl
                have p1 : wr.cell? ⟨s, 1, none⟩ = some (.map (some mb)) := HB.out.1.1.st.c1
                simp only [poVal, slV] at hrun
                clear hm6 ht6 hxd hdm HB
                go_wp2_with fail
                go_roundw
                case rel => exact ⟨K + 1, by omega, by go_num, _, _, HN6⟩
                case measure => simp [intOf]; omega
end Go.Proofs.YtifkacnoiocebaaGreat
