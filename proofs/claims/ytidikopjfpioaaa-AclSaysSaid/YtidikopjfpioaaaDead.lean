/- acl.Dead. -/
import Derived.Test.YtidikopjfpioaaaDel
set_option linter.unusedVariables false
set_option linter.unusedSimpArgs false
namespace Go.Proofs.Ytidikopjfpioaaa
open Go.RowKit Go.Maps Bdd

/-- The numbers below k of the rules without which the list's function is the same. -/
def DeadTo (l : List RuleV) (k : Nat) (dl : List Nat) : Prop := ∀ D : Nat → Bool, (∀ i, i < l.length → (D i = true ↔ aclF (l.eraseIdx i) = aclF l)) → dl = (List.range k).filter D
theorem DeadTo.zero (l : List RuleV) : DeadTo l 0 [] := fun D _ => by simp
theorem DeadTo.yes {l : List RuleV} {k : Nat} {dl : List Nat} (h : DeadTo l k dl) (hk : k < l.length) (he : aclF (l.eraseIdx k) = aclF l) : DeadTo l (k + 1) (dl ++ [k]) := fun D hD => by
  rw [List.range_succ, List.filter_append, ← h D hD]
  simp [(hD k hk).2 he]
theorem DeadTo.no {l : List RuleV} {k : Nat} {dl : List Nat} (h : DeadTo l k dl) (hk : k < l.length) (he : aclF (l.eraseIdx k) ≠ aclF l) : DeadTo l (k + 1) dl := fun D hD => by
  rw [List.range_succ, List.filter_append, ← h D hD]
  have : D k = false := by
    cases e : D k
    · rfl
    · exact absurd ((hD k hk).1 e) he
  simp [this]

def intCells (dl : List Nat) : List Value := dl.map fun (k : Nat) => Value.int .i64 (k : Int)
theorem intCells_one (dl : List Nat) : ∀ u ∈ intCells dl, u.oneCell' = true := fun u hu => by
  obtain ⟨k, _, rfl⟩ := List.mem_map.1 hu
  rfl

theorem own_same {w w' : World} {base e s n : Nat} {v : Value} {xs : List Value} (h : w.ownsRow base e s v n xs) (hb : ∀ q, v.ownBlock = some q → w'.heap[q]? = w.heap[q]?) : w'.ownsRow base e s v n xs := by
  obtain ⟨h1, h2⟩ := h
  refine ⟨h1, ?_⟩
  rcases h2 with h2 | ⟨g', cap', cur, hv, hb', hh, r⟩
  · exact .inl h2
  · subst hv
    exact .inr ⟨_, _, cur, rfl, hb', (hb g' rfl).trans hh, r⟩

def DeadP (w : World) (B g nb kb ib : Nat) (A : St) (P : Bdd.Fn → Prop) (l : List RuleV) (e : Ending) (W' : World) : Prop :=
  ∃ (nb2 cap2 : Nat) (A2 : St) (K2 T2 : Tri → Option Value), BS w B g nb kb ib A P W' nb2 cap2 A2 K2 T2 ∧
    ((∃ (v : Value) (dl : List Nat), e = .returned (.tuple #[v, .int .i64 0]) ∧ W'.ownsRow w.heap.size 3 1 v dl.length (intCells dl) ∧ DeadTo l l.length dl) ∨ (e = .returned (.tuple #[.slice none 0 0, .int .i64 6]) ∧ A2.len = A2.most))

theorem Try.infoInt : (Try.prog.info? 3).map (fun i => (i.zero, i.size, i.bytes)) = some (some (.int .i64 0), 1, 8) := by kernel_rfl

/-- The row of numbers and the arena: neither touches the other. -/
structure RowOff (w0 wr : World) (g nb2 kb ib : Nat) (v : Value) (dl : List Nat) : Prop where
  own : wr.ownsRow w0.heap.size 3 1 v dl.length (intCells dl)
  off : ∀ q, v.ownBlock = some q → ¬ Fp g nb2 kb ib q

theorem RowOff.lt {w0 wr : World} {g nb2 kb ib : Nat} {v : Value} {dl : List Nat} (h : RowOff w0 wr g nb2 kb ib v dl) : ∀ q, v.ownBlock = some q → q < wr.heap.size := fun q hq => (h.own.lt q hq).2
theorem RowOff.below {w0 wr w2 : World} {g nb2 kb ib : Nat} {v : Value} {dl : List Nat} (h : RowOff w0 wr g nb2 kb ib v dl) (hb : RowKit.Below wr.heap.size wr w2) : RowOff w0 w2 g nb2 kb ib v dl :=
  ⟨own_same h.own (fun q hq => hb.block q (h.lt q hq)), h.off⟩
theorem RowOff.frm {w0 wr w2 : World} {g nb2 nb3 kb ib : Nat} {v : Value} {dl : List Nat} (h : RowOff w0 wr g nb2 kb ib v dl) (hf : Frm (Fp g nb2 kb ib) wr w2) (hn : nb3 = nb2 ∨ wr.heap.size ≤ nb3) : RowOff w0 w2 g nb3 kb ib v dl :=
  ⟨own_same h.own (fun q hq => hf.block q (h.lt q hq) (h.off q hq)), fun q hq hS => by
    have := h.lt q hq
    rcases hS with e | e | e | e
    · exact h.off q hq (.inl e)
    · rcases hn with e' | e'
      · exact h.off q hq (.inr (.inl (e.trans e')))
      · omega
    · exact h.off q hq (.inr (.inr (.inl e)))
    · exact h.off q hq (.inr (.inr (.inr e)))⟩

/-- Behind an append to the row. -/
theorem RowOff.append {w : World} {b g nb kb ib nb2 cap2 : Nat} {A A2 : St} {K2 T2 : Tri → Option Value} {P : Bdd.Fn → Prop} {w2 w5 : World} {v v5 : Value} {dl : List Nat} {k : Nat} (hs : BS w b g nb kb ib A P w2 nb2 cap2 A2 K2 T2) (h : RowOff w w2 g nb2 kb ib v dl)
    (hown : w5.ownsRow w.heap.size 3 1 v5 (dl.length + 1) (intCells dl ++ [.int .i64 (k : Int)])) (hg : w2.grownBy w5 v.ownBlock) (hat : v5.ownBlock = v.ownBlock ∨ v5.ownBlock = some w2.heap.size) :
    BS w b g nb kb ib A P w5 nb2 cap2 A2 K2 T2 ∧ RowOff w w5 g nb2 kb ib v5 (dl ++ [k]) := by
  obtain ⟨l1, l2, l3, l4, _⟩ := hs.ar.lts
  have hbk : ∀ q, q < w2.heap.size → Fp g nb2 kb ib q → w5.heap[q]? = w2.heap[q]? := fun q hq hF => hg.block q hq (fun e => h.off q e.symm hF)
  have hsz := hs.fm.size
  refine ⟨⟨hs.ext, hs.nf, hs.nw, hs.ar.keep (hbk g l1 (.inl rfl)) (hbk nb2 l2 (.inr (.inl rfl))) (hbk kb l3 (.inr (.inr (.inl rfl)))) (hbk ib l4 (.inr (.inr (.inr rfl)))), hs.nbc, ?_⟩, ⟨by simpa [intCells] using hown, fun q hq hF => ?_⟩⟩
  · refine hs.fm.trans (S' := fun q => some q = v.ownBlock) (Frm.of_grown hg (fun q hq _ => hq.symm)) (fun q hq hS => ?_)
    have := (h.own.lt q hS.symm).1
    omega
  · rcases hat with e | e
    · exact h.off q (e ▸ hq) hF
    · rw [e] at hq
      cases hq
      rcases hF with e | e | e | e <;> omega

theorem RuleAt.block {w w' : World} {b o : Nat} {r : RuleV} (h : RuleAt w b o r) (hb : w'.heap[b]? = w.heap[b]?) : RuleAt w' b o r := by
  unfold RuleAt at *
  have e : ∀ o, w'.cell? ⟨b, o, none⟩ = w.cell? ⟨b, o, none⟩ := fun o => World.cell?_of_block (a := ⟨b, o, none⟩) hb
  rw [e, e, e, e, e]
  exact h

theorem BP.frm {w : World} {B g nb kb ib : Nat} {A : St} {F : Bdd.Fn} {P : Bdd.Fn → Prop} {e : Ending} {W' : World} (h : BP w B g nb kb ib A F P e W') : Frm (Fp g nb kb ib) w W' := by
  obtain ⟨nb2, cap2, A2, K2, T2, h1, h2, h3, h4, h5, h6, h7⟩ := h
  exact h6
theorem BS.step' {w : World} {B g nb kb ib cap : Nat} {A : St} {K T : Tri → Option Value} {P : Bdd.Fn → Prop} {w1 w2 : World} {nb1 cap1 : Nat} {A1 : St} {K1 T1 : Tri → Option Value} {F : Bdd.Fn} {e : Ending} (h0 : ArenaAt w B g nb kb ib cap A K T)
    (h : BS w B g nb kb ib A P w1 nb1 cap1 A1 K1 T1) (hb : BP w1 B g nb1 kb ib A1 F P e w2) : ∃ (nb2 cap2 : Nat) (A2 : St) (K2 T2 : Tri → Option Value), BS w B g nb kb ib A P w2 nb2 cap2 A2 K2 T2 ∧ Ext A1 A2 ∧ BRes A2 F e ∧ (nb2 = nb1 ∨ w1.heap.size ≤ nb2) := by
  obtain ⟨nb2, cap2, A2, K2, T2, h1, h2, h3, h4, h5, h6, h7⟩ := hb
  obtain ⟨l1, l2, l3, l4, _⟩ := h0.lts
  have hs := h.fm.size
  refine ⟨nb2, cap2, A2, K2, T2, ⟨h.ext.trans h1, h2, fun j a b => ?_, h4, ?_, h.fm.trans h6 (fun i hi hS => ?_)⟩, h1, ?_, h5⟩
  · rcases Nat.lt_or_ge j A1.len with hl | hl
    · rw [h1.den h.inv hl]; exact h.nw j a hl
    · exact h3 j hl b
  · rcases h5 with e5 | e5
    · rw [e5]; exact h.nbc
    · exact .inr (by omega)
  · rcases hS with e | e | e | e
    · exact .inl e
    · rcases h.nbc with e' | e'
      · exact .inr (.inl (e.trans e'))
      · omega
    · exact .inr (.inr (.inl e))
    · exact .inr (.inr (.inr e))
  · rcases h7 with ⟨r, a, b, c⟩ | h7
    · exact .inl ⟨r, a, b, c⟩
    · exact .inr h7

set_option maxRecDepth 100000 in
theorem dead_large (gp : Value) (A : Option Addr) (n c : Nat) (W : World) (h : 8 < n) : Calls Try.prog 38 #[gp, .slice A n c] W fun e W' => e = .returned (.tuple #[.slice none 0 0, .int .i64 2]) ∧ W = W' := by
  go_enter Try.func38, Try.ntmps38
  go_wp2_with fail
  refine (aclBuild_large _ _ _ _ _ h).mono ?_
  rintro e w1 ⟨rfl, rfl⟩
  go_wp2
  go_ret2
  exact ⟨rfl, rfl⟩

set_option maxRecDepth 100000 in
set_option maxHeartbeats 8000000 in
theorem dead_walk {w : World} {B g nb kb ib cap : Nat} {A : St} {K T : Tri → Option Value} (h : ArenaAt w B g nb kb ib cap A K T) (hA : A.full = false) (hv : 14 ≤ A.vars) (l : List RuleV) (a : Option Addr) (n c : Nat) (hn : n ≤ 8) (hlen : l.length = n)
    (hl : ∀ w', Frm (Fp g nb kb ib) w w' → RulesAt w' w'.heap.size a n l) (P : Bdd.Fn → Prop) (hR : ∀ r ∈ l, ∀ G, NewB (ruleL r) G → P G) (hS : ∀ k G, Cof (aclF (l.drop k)) G → P G) (hS2 : ∀ i k G, Cof (aclF ((l.eraseIdx i).drop k)) G → P G) :
    Calls Try.prog 38 #[.pointer (some ⟨g, 0, none⟩), .slice a n c] w (DeadP w B g nb kb ib A P l) := by
  obtain ⟨i0, hi0, hz0, hz1, hz2⟩ := info_parts Try.infoInt
  have H := hide h
  have HB1 := hide (aclBuild_gen h hA hv l a n c hn hlen hl P hR hS)
  have HS0 := hide (BS.refl h hA P)
  have HV := hide hv
  have HL := hide hl
  have HR := hide hR
  have HP2 := hide hS2
  clear h hA hv hl hR hS hS2
  go_enter Try.func38, Try.ntmps38
  go_wp2_with fail
  refine HB1.out.mono ?_
  clear HB1
  rintro e w1 hbp
  obtain ⟨nb1, cap1, A1, K1, T1, hst, hx, hres⟩ := HS0.out.step H.out hbp
  have HS1 := hide hst
  clear hbp hst hx HS0
  rcases hres with ⟨ra, rfl, hisf⟩ | ⟨rfl, hfull⟩
  case inr =>
    have HF := hide (show DeadP w B g nb kb ib A P l (.returned (.tuple #[.slice none 0 0, .int .i64 6])) w1 from ⟨nb1, cap1, A1, K1, T1, HS1.out, .inr ⟨rfl, hfull⟩⟩)
    clear hfull
    go_wp2
    go_ret2
    exact HF.out
  have HA1 := hide hisf
  clear hisf
  have HRO1 := hide (show RowOff w w1 g nb1 kb ib (.slice none 0 0) [] from ⟨World.ownsRow_nil _ _ _ _, fun q hq => by cases hq⟩)
  go_wp2
  go_loopw [8, 23] (fun u i wr => ∃ (k nb2 cap2 : Nat) (A2 : St) (K2 T2 : Tri → Option Value) (dl : List Nat) (v : Value), k ≤ n ∧ i = .int .i64 k ∧ u = v ∧ Hid (BS w B g nb kb ib A P wr nb2 cap2 A2 K2 T2) ∧ Hid (IsF A2 ra (aclF l)) ∧ Hid (RowOff w wr g nb2 kb ib v dl) ∧ Hid (DeadTo l k dl) ∧ dl.length ≤ k) (fun _ i _ => n - (intOf i).toNat)
  case atStart => exact ⟨0, nb1, cap1, A1, K1, T1, [], _, Nat.zero_le _, rfl, rfl, HS1, HA1, HRO1, hide (DeadTo.zero l), Nat.zero_le _⟩
  case round =>
    clear HS1 HA1 HRO1
    obtain ⟨k, nb2, cap2, A2, K2, T2, dl, v, hk, rfl, rfl, HS, HA, HO, HD, hdl⟩ := hrel
    generalize u8 = v at *
    by_cases hlt : k < n
    · have hrl := HL.out wr HS.out.fm
      have HCL := hide (cloneRule_walk l a n c wr (by omega) hrl.sl)
      have HOK := hide hrl.2.1
      clear hrl
      go_wp2_with fail
      refine HCL.out.mono ?_
      rintro e wa ⟨v1, rfl, hown, hb1⟩
      obtain ⟨g1, cap1, rfl, hg1, hg1l, hrow⟩ := RowAt.of_own hown hlen (by omega)
      have HROW := hide hrow
      have HB1 := hide hb1
      clear hown hb1 HCL hrow
      go_wp2_with fail
      refine (delRule_walk wa g1 n cap1 k l HROW.out hlt).mono ?_
      rintro e w2 ⟨rfl, hfr, hrules⟩
      have HB2 := hide (HB1.out.trans (hfr.below (B := wr.heap.size) HB1.out.size (fun i hi => by omega)))
      have HS2 := hide (HS.out.below HB2.out)
      have HO2 := hide (HO.out.below HB2.out)
      have hlen2 : (l.eraseIdx k).length = n - 1 := by rw [List.length_eraseIdx, hlen, if_pos hlt]
      have hg2 : g1 < w2.heap.size := Nat.lt_of_lt_of_le hg1l hfr.size
      have HK2 := hide (fun (w' : World) (hf : Frm (Fp g nb2 kb ib) w2 w') => show RulesAt w' w'.heap.size (some ⟨g1, 0, none⟩) (n - 1) (l.eraseIdx k) from by
        obtain ⟨l1, l2, l3, l4, _⟩ := HS.out.ar.lts
        have hblk := hf.block g1 hg2 (fun hF => by rcases hF with e | e | e | e <;> omega)
        exact ⟨hlen2, fun r hr => HOK.out r (List.mem_of_mem_eraseIdx hr), fun _ => ⟨g1, 0, rfl, Nat.lt_of_lt_of_le hg2 hf.size, fun j r hr => by rw [Nat.zero_add]; exact (hrules j r hr).block hblk⟩⟩)
      have HC2 := hide (aclBuild_gen HS2.out.ar HS2.out.nf (by rw [HS2.out.ext.vars]; exact HV.out) (l.eraseIdx k) (some ⟨g1, 0, none⟩) (n - 1) cap1 (by omega) hlen2 HK2.out P (fun r hr => HR.out r (List.mem_of_mem_eraseIdx hr)) (HP2.out k))
      clear hfr hrules HROW HB1 HB2 HO HS HOK hlen2 hg2 hg1 hg1l
      go_wp2_with fail
      refine HC2.out.mono ?_
      clear HC2 HK2
      rintro e w3 hbp
      have hfm3 := hbp.frm
      obtain ⟨nb3, cap3, A3, K3, T3, hst, hx3, hres, hnb3⟩ := HS2.out.step' H.out hbp
      have HS3 := hide hst
      have HA3 := hide (HA.out.ext HS2.out.inv hx3)
      have HO3 := hide (HO2.out.frm hfm3 hnb3)
      clear hbp hfm3 hst hx3 hnb3 HS2 HA HO2
      rcases hres with ⟨r3, rfl, hisf⟩ | ⟨rfl, hfull⟩
      case inr =>
        have HF := hide (show DeadP w B g nb kb ib A P l (.returned (.tuple #[.slice none 0 0, .int .i64 6])) w3 from ⟨nb3, cap3, A3, K3, T3, HS3.out, .inr ⟨rfl, hfull⟩⟩)
        clear hfull
        go_wp2
        go_ret2
        exact HF.out
      have HI3 := hide hisf
      clear hisf
      by_cases hsame : r3 = ra
      · have HDY := hide (HD.out.yes (by omega) (by rw [← HI3.out.2, ← HA3.out.2, hsame]))
        subst hsame
        clear HD
        have hsz := HS3.out.fm.size
        have HLIT := hide (show Reads (w3.alloc (.cells #[.int .i64 k] 3)) (w3.heap.size + 1) 1 (some ⟨w3.heap.size, 0, none⟩) 1 [.int .i64 (k : Int)] from
          ⟨rfl, fun _ => ⟨_, rfl, Nat.lt_succ_self _, fun j u hu => by
            rw [addr_add, Nat.zero_add, cell_of_row _ _ _ _ _ _ (heap_alloc_new w3 _)]
            simpa using hu⟩⟩)
        have hb3 : RowKit.Below w3.heap.size w3 (w3.alloc (.cells #[.int .i64 k] 3)) := (RowKit.Below.refl _ _).alloc (Nat.le_refl _) _
        have HS4 := hide (HS3.out.below hb3)
        have HO4 := hide (HO3.out.below hb3)
        clear hb3 HS3 HO3
        go_wp2_with (at_builtin; refine wpList_append_any _ rfl (.tmp 43) (.tmp 45) 26 rfl w.heap.size 3 i0 _ 1 8 Try.underlying26 hi0 hz0 hz1 hz2 rfl (by omega) v dl.length (intCells dl) rfl HO4.out.own (w3.heap.size + 1) (some ⟨w3.heap.size, 0, none⟩) 1 1 [.int .i64 (k : Int)] rfl HLIT.out (by intro u hu; simp at hu; subst hu; rfl) (by simp only [maxLen]; omega) (by omega) (by simp; omega) ?_; intro v5 w5 hown5 hg5 hat5; have HS5 := hide (RowOff.append HS4.out HO4.out hown5 hg5 hat5); clear hown5 hg5 hat5)
        go_roundw
        case rel => exact ⟨k + 1, nb3, cap3, A3, K3, T3, dl ++ [k], v5, by omega, by go_num, rfl, hide HS5.out.1, HA3, hide HS5.out.2, HDY, by simp; omega⟩
        case measure => simp [intOf]; omega
      · have hne : ((r3 : Int) == (ra : Int)) = false := by simp; omega
        have HDN := hide (HD.out.no (by omega) (fun he => hsame ((canon HS3.out.inv.ok HI3.out.1 HA3.out.1).1 (by rw [HI3.out.2, HA3.out.2, he]))))
        clear HD hsame
        go_wp2
        go_roundw
        case rel => exact ⟨k + 1, nb3, cap3, A3, K3, T3, dl, v, by omega, by go_num, rfl, HS3, HA3, HO3, HDN, by omega⟩
        case measure => simp [intOf]; omega
    · have hkn : k = n := by omega
      have HF := hide (show DeadP w B g nb kb ib A P l (.returned (.tuple #[v, .int .i64 0])) wr from ⟨nb2, cap2, A2, K2, T2, HS.out, .inl ⟨v, dl, rfl, HO.out.own, by rw [hlen, ← hkn]; exact HD.out⟩⟩)
      go_wp2
      go_ret2
      exact HF.out
end Go.Proofs.Ytidikopjfpioaaa
