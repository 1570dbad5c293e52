/- The walk of ReasmOrder. -/
import Derived.Test.YtpkbckkminmdmaaRsL12
namespace Go.Proofs.Ytpkbckkminmdmaa
open Go.RowKit Go.Proofs.YtpkbckkminmdmaaW.PrintWords Go.Proofs.YtpkbckkminmdmaaW.PrintMore
attribute [local go_sem] alloc_drewN setCell_drewN isMap_alloc isMap_drew isMap_drewN isMap_setCell cell_setMap frozen_setMap setMap_drew setMap_drewN size_setMap field_piece0 field_data1 field_data3 field_data6

theorem Rs.take_held2 {s s' : Rs.St} {m : Rs.Ms} (h : Rs.take s = some (m, s')) : Rs.held s' = Rs.held s - m.bytes.length := by
  unfold Rs.take at h
  cases hr : s.row with
  | nil => rw [hr] at h; cases h
  | cons x r =>
    rw [hr] at h
    injection h with h
    injection h with h1 h2
    subst h1 h2
    rw [Rs.held_eq, Rs.held_eq, hr]
    simp only [Rs.bytesOfM, List.map_cons, List.sum_cons]
    omega
/-- A message taken: its bytes are nobody's. -/
def GotM (w : World) (g : Nat) (s : Gs) (x : Mp) : Prop := ∃ b, x.A = some ⟨b, 0, none⟩ ∧ Byt w b x.c x.m.bytes ∧ ¬ Foot g s b ∧ x.m.bytes.length ≤ 1000000
/-- What was taken so far, and where things stand. -/
structure GotQ (g : Nat) (w3 : World) (s0 : Gs) (G : List (List Rs.Pc)) (T : List Rs.Pc) (s : Gs) (H : List Nat) (gs : List Mp) (A : Option Addr) (c : Nat) (w : World) : Prop where
  at_ : RsAt w g s (Rs.held s.abs)
  inv : Rs.Inv G T s.abs H (gs.map (·.m))
  fr : Fr (Foot g s0) w3 w
  foot : ∀ k, Foot g s k → Foot g s0 k ∨ w3.heap.size ≤ k
  own : w.ownsRow w3.heap.size 40 3 (.slice A gs.length c) gs.length (mrow gs)
  far : ∀ k, (Value.slice A gs.length c).ownBlock = some k → ¬ Foot g s k
  gm : ∀ x ∈ gs, GotM w g s x
  lim : ∀ y ∈ s.L, y.p.bytes.length ≤ 100000
section
variable {g : Nat} {w3 w w' : World} {s0 s s' : Gs} {G : List (List Rs.Pc)} {T T' : List Rs.Pc} {H H' : List Nat} {gs : List Mp} {A : Option Addr} {c : Nat}
theorem GotM.fr0 {x : Mp} (h : GotM w g s x) (hf : Fr (fun _ => False) w w') : GotM w' g s x := by
  obtain ⟨b, h1, h2, h3, h4⟩ := h
  exact ⟨b, h1, h2.fr0 hf, h3, h4⟩
theorem GotM.upd {x : Mp} {h' : Int} (h : GotM w g s x) (u : Upd g s s' h' w w') : GotM w' g s' x := by
  obtain ⟨b, h1, h2, h3, h4⟩ := h
  exact ⟨b, h1, h2.upd u h3, foot_after u h2.lt h3, h4⟩
theorem GotQ.fr0 (h : GotQ g w3 s0 G T s H gs A c w) (hf : Fr (fun _ => False) w w') : GotQ g w3 s0 G T s H gs A c w' :=
  ⟨h.at_.fr0 hf, h.inv, h.fr.trans (hf.mono fun _ _ h => h.elim), h.foot, own_fr0 h.own hf, h.far, fun x hx => (h.gm x hx).fr0 hf, h.lim⟩
theorem GotQ.okM (h : GotQ g w3 s0 G T s H gs A c w) : OkM w gs := fun x hx => by
  obtain ⟨b, h1, h2, h3, h4⟩ := h.gm x hx
  obtain ⟨_, _, hle, _⟩ := h2.blk
  exact ⟨by rw [h1]; exact h2.bin, hle, h4⟩
theorem GotQ.put (h : GotQ g w3 s0 G T s H gs A c w) (u : Upd g s s' (Rs.held s'.abs) w w') (hi : Rs.Inv G T' s'.abs H' (gs.map (·.m))) (hl : ∀ y ∈ s'.L, y.p.bytes.length ≤ 100000) : GotQ g w3 s0 G T' s' H' gs A c w' :=
  ⟨u.at_, hi, h.fr.then u.fr h.foot, fun k hk => (u.foot k hk).elim (h.foot k) (fun h' => .inr (Nat.le_trans h.fr.size h')), own_fr h.own u.fr h.far, fun k hk => foot_after u (own_lt h.own k hk) (h.far k hk), fun x hx => (h.gm x hx).upd u, hl⟩
/-- A message taken and put behind the others. -/
theorem GotQ.take (h : GotQ g w3 s0 G T s H gs A c w) {m : Rs.Ms} {b cm : Nat} {w1 w2 w9 : World} {A9 : Option Addr} {c9 : Nat} (hr : s.abs.row = m :: s'.abs.row) (hL : s'.abs = { s.abs with row := s'.abs.row }) (u : Upd g s s' (Rs.held s'.abs) w w1) (hb : Byt w1 b cm m.bytes) (hnb : ¬ Foot g s' b) (hlm : m.bytes.length ≤ 1000000) (hLL : s'.L = s.L)
    (hf : Fr (fun _ => False) w1 w2) (hO9 : w9.ownsRow w3.heap.size 40 3 (.slice A9 (gs.length + 1) c9) (gs.length + 1) (mrow gs ++ [.int .u16 m.stream, .bool m.ord, .slice (some ⟨b, 0, none⟩) m.bytes.length cm])) (hG : w2.grownBy w9 (Value.slice A gs.length c).ownBlock)
    (hN : (Value.slice A9 (gs.length + 1) c9).ownBlock = (Value.slice A gs.length c).ownBlock ∨ ∃ k, (Value.slice A9 (gs.length + 1) c9).ownBlock = some k ∧ w2.heap.size ≤ k) :
    GotQ g w3 s0 G T s' H (gs ++ [⟨m, some ⟨b, 0, none⟩, cm⟩]) A9 c9 w9 := by
  have h1 : GotQ g w3 s0 G T s' H gs A c w2 → True := fun _ => trivial
  have hown2 := own_fr0 (own_fr h.own u.fr h.far) hf
  have hfar2 : ∀ k, (Value.slice A gs.length c).ownBlock = some k → ¬ Foot g s' k := fun k hk => foot_after u (own_lt h.own k hk) (h.far k hk)
  have hf9 : Fr (fun k => (Value.slice A gs.length c).ownBlock = some k) w2 w9 := (Fr.refl _ _).grown hG (fun k hk => .inl hk)
  have hbk : ∀ (b cm : Nat) (bs : List Int), Byt w2 b cm bs → Byt w9 b cm bs := fun b cm bs hb => by
    obtain ⟨cur, hbl, _⟩ := hb.blk
    exact hb.keep (hf9.block b hb.lt (fun e => own_nblk hown2 hbl (by decide) _ e rfl))
  refine ⟨(u.at_.fr0 hf).fr hf9 (fun k hk e => hfar2 k e hk), ?_, ((h.fr.then u.fr h.foot).trans (hf.mono fun _ _ h => h.elim)).grown hG (fun k hk => .inr (own_base h.own k hk)), fun k hk => (u.foot k hk).elim (h.foot k) (fun h' => .inr (Nat.le_trans h.fr.size h')), ?_, ?_, ?_, by rw [hLL]; exact h.lim⟩
  · have := h.inv.take hr
    rw [← hL] at this
    rw [List.map_append]
    exact this
  · rw [List.length_append, mrow_snoc]
    exact hO9
  · intro k hk hft
    rw [List.length_append] at hk
    rcases hN with e | ⟨k', e, hk'⟩
    · exact hfar2 k (by rw [← e]; exact hk) hft
    · have hkk : k' = k := by
        have := e.symm.trans hk
        injection this
      have := (u.at_.fr0 hf).foot_lt hft
      omega
  · intro x hx
    rcases List.mem_append.1 hx with hx | hx
    · obtain ⟨b', e1, e2, e3, e4⟩ := (h.gm x hx).upd u
      exact ⟨b', e1, hbk _ _ _ (e2.fr0 hf), e3, e4⟩
    · obtain rfl : x = ⟨m, some ⟨b, 0, none⟩, cm⟩ := by simpa using hx
      exact ⟨b, rfl, hbk _ _ _ (hb.fr0 hf), hnb, hlm⟩
end
set_option maxRecDepth 100000 in
set_option maxHeartbeats 8000000 in
theorem order_walk (first : Int) (A0 : Option Addr) (c0 : Nat) (l : List Rs.Sn) (A1 : Option Addr) (c1 : Nat) (o : List Int) (w : World) (hf : (Lit.int .u32 first).wf = true) (hC : kSn.C w A0 l.length l) (_hc : l.length ≤ c0) (hq : (∀ x ∈ l, QSn x) ∧ l.length * Try.prog.bytesOf 148 ≤ reachBytes)
    (hC1 : (Kd.int .u8).C w A1 o.length o) (hc1 : o.length ≤ c1) (ho : ∀ x ∈ o, (Lit.int .u8 x).wf = true) :
    Calls Try.prog 5 #[.int .u32 first, .slice A0 l.length c0, .slice A1 o.length c1] w (Same0 (.bool true) w) := by
  by_cases hbig : 80 < l.length ∨ 80 < o.length
  · by_cases h1 : 80 < l.length
    · have b1 : decide (80 < (l.length : Int)) = true := decide_eq_true (by omega)
      clear hbig h1
      go_enter Try.func5, Try.ntmps5
      go_wp2_with (go_at_call 27; refine (works_any _).mono ?_; rintro e w2 ⟨rfl, hf2⟩)
      go_ret
      exact ⟨rfl, Fr.trans (S := fun _ => False) (by repeat (first | (with_reducible exact Fr.refl _ _) | (with_reducible refine Fr.drewN ?_ _) | (with_reducible refine Fr.drew ?_) | (with_reducible refine Fr.alloc ?_ _))) hf2⟩
    · have b1 : decide (80 < (l.length : Int)) = false := decide_eq_false (by omega)
      have b2 : decide (80 < (o.length : Int)) = true := decide_eq_true (by omega)
      clear hbig h1
      go_enter Try.func5, Try.ntmps5
      go_wp2_with (go_at_call 27; refine (works_any _).mono ?_; rintro e w2 ⟨rfl, hf2⟩)
      go_ret
      exact ⟨rfl, Fr.trans (S := fun _ => False) (by repeat (first | (with_reducible exact Fr.refl _ _) | (with_reducible refine Fr.drewN ?_ _) | (with_reducible refine Fr.drew ?_) | (with_reducible refine Fr.alloc ?_ _))) hf2⟩
  · have b1 : decide (80 < (l.length : Int)) = false := decide_eq_false (by omega)
    have b2 : decide (80 < (o.length : Int)) = false := decide_eq_false (by omega)
    obtain ⟨hf0, hf1⟩ := in_u32 hf
    have hpc := pieces_any first A0 c0 l w hf0 hf1 hC (by omega) hq.1
    have HPC := Lib.hid hpc
    have hl80 : l.length ≤ 80 := by omega
    clear hpc hbig
    go_enter Try.func5, Try.ntmps5
    go_wp2_with fail
    go_at_call 39
    refine HPC.out.mono ?_
    clear HPC
    rintro e w1 (⟨rfl, hF1⟩ | ⟨A, c, B, d, dps, mps, rfl, hF1, hO, hM, hdp, hmp, hg, hdb, hmb⟩)
    · go_wp2_with (go_at_call 27; refine (works_any _).mono ?_; rintro e w2 ⟨rfl, hf2⟩)
      go_ret
      exact ⟨rfl, hF1.trans hf2⟩
    · by_cases hz : dps.length = 0
      · have bz : ((dps.length : Int) == 0) = true := beq_iff_eq.2 (by omega)
        clear hz
        go_wp2_with (go_at_call 27; refine (works_any _).mono ?_; rintro e w2 ⟨rfl, hf2⟩)
        go_ret
        exact ⟨rfl, hF1.trans hf2⟩
      · have bz : ((dps.length : Int) == 0) = false := beq_eq_false_iff_ne.2 (by omega)
        have hN0 : 0 < dps.length := by omega
        clear hz
        have hcut := Rs.cuts_ok (first := first) hg
        have hdl : (Rs.cutsN first l l.length).flatten.length = dps.length := by rw [← hdp, List.length_map]
        have hml : (Rs.cutsN first l l.length).length = mps.length := by
          have := congrArg List.length hmp
          rw [List.length_map, List.length_map] at this
          exact this.symm
        have hdl100 : dps.length ≤ 100 := by have := Rs.flat_len (first := first) (l := l) l.length; have := hg.few; omega
        have hml80 : mps.length ≤ 80 := by rw [← hml, Rs.cutsN_len]; exact hl80
        have hssn := cuts_ssn (first := first) (l := l) hl80
        generalize Rs.cutsN first l l.length = G at *
        have HSSN := Lib.hid hssn
        clear hssn
        have hm0 : 0 < mps.length := by
          rcases Nat.eq_zero_or_pos mps.length with h | h
          · rw [h] at hml
            rw [List.length_eq_zero_iff.1 hml] at hdl
            simp at hdl
            omega
          · exact h
        obtain ⟨gD, rfl, hD⟩ := dread_of hO hN0
        obtain ⟨gM, rfl, hMr⟩ := mread_of hM hm0
        have HMW := Lib.hid hM
        have HMB := Lib.hid hmb
        have hnew := new_good 4 w1 (by decide) (by decide)
        have HDP := Lib.hid hdp
        have HMP := Lib.hid hmp
        have HDL := Lib.hid hdl
        have HML := Lib.hid hml
        have HDB := Lib.hid hdb
        have HC := Lib.hid hcut
        clear hO hM hdp hmp hdl hml hdb hmb hcut hg b1 b2
        go_wp2_with (go_at_call 28; refine hnew.mono ?_; clear hnew; rintro e w2 ⟨g, mb, nb, rfl, hr0, hF2, hft0⟩)
        go_at_call 40
        have hbel2 : Below w.heap.size w w2 := (hF1.trans hF2).below (Nat.le_refl _) (fun _ h => h.elim)
        refine (turned_any dps.length hdl100 A1 c1 o w2 (Kd.C_below hC1 hbel2) hc1 (fun x hx => in_u8 (ho x hx))).mono ?_
        rintro e w3 ⟨At, ct, at_, rfl, hperm, hCt, hF3, hAt⟩
        have hatl : at_.length = dps.length := by rw [hperm.length_eq, List.length_range]
        have HP := Lib.hid hperm
        have HATL := Lib.hid hatl
        clear hperm hatl
        go_wp2_with fail
        have F13 : Fr (fun _ => False) w1 w3 := hF2.trans hF3
        have hD4 := hD.fr F13 (fun h => h)
        have hr4 := hr0.fr0 hF3
        have F03 : Fr (fun _ => False) w w3 := hF1.trans F13
        have hfoot : ∀ k, Foot g (newGs mb nb 4) k → w1.heap.size ≤ k ∧ k < w2.heap.size := fun k hk => ⟨hft0 k hk, hr0.foot_lt hk⟩
        have hgD : gD < w1.heap.size := hD.lt
        have hgM : gM < w1.heap.size := hMr.lt
        have hs12 : w1.heap.size ≤ w2.heap.size := hF2.size
        have hs23 : w2.heap.size ≤ w3.heap.size := hF3.size
        have hw1 : w.heap.size ≤ w1.heap.size := hF1.size
        obtain ⟨adt, hadt, _⟩ := int_at hCt (0 : Nat) (by rw [HATL.out]; exact hN0)
        subst hadt
        have hadt2 : w2.heap.size ≤ adt.block := hAt adt rfl
        have hadt3 : adt.block < w3.heap.size := by
          obtain ⟨ad', e', hc'⟩ := int_at hCt (0 : Nat) (by rw [HATL.out]; exact hN0)
          injection e' with e'
          subst e'
          have := World.block_lt_of_cell? w3 _ hc'
          rwa [block_of_add] at this
        have hat : ∀ i (hi : i < at_.length), w3.cell? (adt.add i) = some (.int .i64 (at_[i] : Int)) := fun i hi => by
          obtain ⟨ad', e', hc'⟩ := int_at hCt i hi
          injection e' with e'
          subst e'
          exact hc'
        have HAT := Lib.hid hat
        clear hat hCt hD hMr hr0 hF2 hF3 hAt hft0 hbel2 hF1
        have hnx : ∀ b, (b = gD ∨ b = gM ∨ b = adt.block) → ¬ Foot g (newGs mb nb 4) b := fun b hb h => by
          have := hfoot b h; omega
        go_loopg [11, 13] dps.length (fun k v11 v13 wr2 => ∃ (i : Nat) (s : Gs) (H : List Nat) (gs : List Mp) (A : Option Addr) (c : Nat), v11 = .slice A gs.length c ∧ v13 = .int .i64 i ∧ i ≤ dps.length ∧ k = dps.length - i ∧
          GotQ g w3 (newGs mb nb 4) G (Rs.pcsAt G (at_.take i)) s H gs A c wr2 ∧ s.row = [] ∧ s.turns ≤ i ∧ Rs.held s.abs ≤ i * 32768)
        case atStart => exact ⟨0, newGs mb nb 4, [], [], none, 0, rfl, rfl, Nat.zero_le _, rfl, ⟨by rw [held_new]; exact hr4, Rs.Inv.start HC.out, Fr.refl _ _, fun k hk => .inl hk, ⟨by simp [mrow], .inl ⟨rfl, rfl⟩⟩, (fun k h => by simp [Value.ownBlock] at h), (fun x hx => by cases hx), by simp [newGs]⟩, rfl, by simp [newGs], by rw [held_new]; omega⟩
        case round =>
          obtain ⟨i, s, H, gs, A, c, rfl, rfl, hi, hk, hQ, hrow, htu, hh⟩ := hrel
          have HK := Lib.hid hk
          have HQ := Lib.hid hQ
          clear hk hQ
          by_cases hlt : i < dps.length
          · have hd1 : decide ((i : Int) < at_.length) = true := decide_eq_true (by have := HATL.out; omega)
            have hila : i < at_.length := by have := HATL.out; omega
            have hd2 : decide (i < at_.length) = true := decide_eq_true hila
            have hp : at_[i] < dps.length := by simpa using HP.out.mem_iff.1 (List.getElem_mem hila)
            have hget : G.flatten[at_[i]]? = some dps[at_[i]].p := by rw [← HDP.out, List.getElem?_map, List.getElem?_eq_getElem hp]; rfl
            have hsn := Rs.pcsAt_snoc (G := G) hila hget
            have hnew2 := Rs.pcsAt_new HC.out (by rw [HDL.out]; exact HP.out) hila hget
            have hfl : dps[at_[i]].p ∈ G.flatten := List.mem_of_getElem? hget
            obtain ⟨hcode, H', hInv'⟩ := HQ.out.inv.put HC.out hfl hnew2
            rw [← hsn] at hInv'
            have hdbx := HDB.out _ (List.getElem_mem hp)
            have hF := HQ.out.fr
            have cA : wr.cell? (adt.add i) = some (.int .i64 (at_[i] : Int)) := (hF.cell (by rw [block_of_add]; exact hadt3) (by rw [block_of_add]; exact hnx _ (.inr (.inr rfl)))).trans (HAT.out i hila)
            have hDr := hD4.fr hF (hnx _ (.inl rfl))
            have d0 : wr.cell? ⟨gD, at_[i] * 7, none⟩ = some (.int .u32 dps[at_[i]].p.tsn) := hDr.at_ at_[i] hp 0 (by decide)
            have d1 : wr.cell? ⟨gD, at_[i] * 7 + 1, none⟩ = some (.int .u16 dps[at_[i]].p.stream) := hDr.at_ at_[i] hp 1 (by decide)
            have d2 : wr.cell? ⟨gD, at_[i] * 7 + 2, none⟩ = some (.int .u16 dps[at_[i]].p.ssn) := hDr.at_ at_[i] hp 2 (by decide)
            have d3 : wr.cell? ⟨gD, at_[i] * 7 + 3, none⟩ = some (.bool dps[at_[i]].p.un) := hDr.at_ at_[i] hp 3 (by decide)
            have d4 : wr.cell? ⟨gD, at_[i] * 7 + 4, none⟩ = some (.bool dps[at_[i]].p.fi) := hDr.at_ at_[i] hp 4 (by decide)
            have d5 : wr.cell? ⟨gD, at_[i] * 7 + 5, none⟩ = some (.bool dps[at_[i]].p.la) := hDr.at_ at_[i] hp 5 (by decide)
            have d6 : wr.cell? ⟨gD, at_[i] * 7 + 6, none⟩ = some (.slice dps[at_[i]].A dps[at_[i]].p.bytes.length dps[at_[i]].c) := hDr.at_ at_[i] hp 6 (by decide)
            have hgl := hDr.lt
            have hrgs := HC.out.rng _ hfl
            have hstr := HC.out.strm _ hfl
            have hss := HSSN.out _ hfl
            have hbin : BIn wr dps[at_[i]].A dps[at_[i]].p.bytes := (hdbx.1.fr0 F13).fr' hF (fun ad e hp' h => by
              obtain ⟨ad', e', hl, _⟩ := hdbx.1 hp'
              rw [e] at e'
              injection e' with e'
              subst e'
              have := hfoot _ h; omega)
            generalize dps[at_[i]] = dp at *
            generalize at_[i] = p at *
            have hbox := Blk.new wr 33 (dcells dp.p dp.A dp.c)
            have htw := fun (w' : World) (hf' : Fr (fun _ => False) wr w') => twin_any dp.A dp.c dp.p.bytes w' (hbin.fr0 hf') hdbx.2.1 (by omega)
            have HTW := Lib.hid htw
            have HBOX := Lib.hid hbox
            have HBIN := Lib.hid hbin
            have HCODE := Lib.hid hcode
            have HINV2 := Lib.hid hInv'
            have HDBX := Lib.hid hdbx
            have HRG := Lib.hid (And.intro hrgs (And.intro hstr hss))
            clear hcode hInv' hsn hnew2 hget hbox hbin hdbx hfl hDr htw hrgs hstr hss
            go_wp2_with fail
            go_at_call 41
            refine (HTW.out _ (by repeat (first | (with_reducible exact Fr.refl _ _) | (with_reducible refine Fr.drewN ?_ _) | (with_reducible refine Fr.drew ?_) | (with_reducible refine Fr.alloc ?_ _)))).mono ?_
            rintro e w5 ⟨TA, TC, rfl, hTO, hF5⟩
            have hb5 := HBOX.out.fr hF5 (fun h => h)
            have F5 : Fr (fun _ => False) wr w5 := Fr.trans (S := fun _ => False) (by repeat (first | (with_reducible exact Fr.refl _ _) | (with_reducible refine Fr.drewN ?_ _) | (with_reducible refine Fr.drew ?_) | (with_reducible refine Fr.alloc ?_ _))) hF5
            have HTO := Lib.hid hTO
            clear hTO hF5
            unfold dcells at hb5
            obtain ⟨k5, l5, m5, f5⟩ := hb5.facts
            clear d0 d1 d2 d3 d4 d5 d6 cA hgl
            go_wp2_with fail
            go_at_call 42
            have hF6 : Fr (fun _ => False) wr (w5.setCell ⟨wr.heap.size, 6, none⟩ (.slice TA dp.p.bytes.length TC)) := F5.setAt (.inr (Nat.le_refl _))
            have hbin6 : BIn (w5.setCell ⟨wr.heap.size, 6, none⟩ (.slice TA dp.p.bytes.length TC)) TA dp.p.bytes := HTO.out.bin.fr (S := (· = wr.heap.size)) (Fr.refl _ _).setOne (fun ad e h => by
              have := HTO.out.far ad e
              have h' : ad.block = wr.heap.size := h
              simp at this
              omega)
            have hQ6 := HQ.out.fr0 hF6
            obtain ⟨hrgs, hstr, hss⟩ := HRG.out
            have hbl := HDBX.out.2.2
            have hput := put_any g s dp.p TA TC _ hQ6.at_ hQ6.lim (by omega) hstr.1 (by omega) hss.1 hss.2 hrgs.1 hrgs.2 (by omega) (by omega) hbin6
            generalize w5.setCell ⟨wr.heap.size, 6, none⟩ (.slice TA dp.p.bytes.length TC) = W6 at *
            refine hput.mono ?_
            clear hput k5 l5 m5 f5 hb5 hbin6
            rintro e w6 ⟨he, s', hu, hab, hnl, htu', hl'⟩
            rw [HCODE.out] at he
            subst he
            have hheld : Rs.held s'.abs = Rs.held s.abs + dp.p.bytes.length := by rw [hab]; exact held_put2 hQ6.at_.ok ⟨by omega, hQ6.lim⟩ hrgs.1 hrgs.2 HCODE.out
            rw [← hab] at HINV2
            have hQ7 := hQ6.put hu HINV2.out hl'
            have HQ7 := Lib.hid hQ7
            have hs1 : s'.turns ≤ ((i + 1 : Nat) : Int) := by omega
            have hs2 : Rs.held s'.abs ≤ ((i + 1 : Nat) : Int) * 32768 := by omega
            clear hu hab hnl htu' hl' hQ6 hQ7 HQ HTO HTW HBOX HBIN HCODE HINV2 F5 hF6 hF hheld hrgs hstr hss hrow htu hh hbl HRG HDBX
            go_wp2_with fail
            go_loopg [11] s'.row.length (fun k v11 w8 => ∃ (s2 : Gs) (gs2 : List Mp) (A2 : Option Addr) (c2 : Nat), v11 = .slice A2 gs2.length c2 ∧ k = s2.row.length ∧ GotQ g w3 (newGs mb nb 4) G (Rs.pcsAt G (at_.take (i + 1))) s2 H' gs2 A2 c2 w8 ∧ s2.turns = s'.turns ∧ Rs.held s2.abs ≤ Rs.held s'.abs)
            case atStart => exact ⟨s', gs, A, c, rfl, rfl, HQ7.out, rfl, Int.le_refl _⟩
            case round =>
              clear HQ7
              obtain ⟨s2, gs2, A2, c2, rfl, hk2, hQ, ht2, hh2⟩ := hrel
              have HK2 := Lib.hid hk2
              have HQ := Lib.hid hQ
              clear hk2 hQ
              cases hrw : s2.row with
              | nil =>
                have hr0 : s2.row.length = 0 := by rw [hrw]; rfl
                have HRW := Lib.hid hrw
                have hrd := readyN_any HQ.out.at_
                rw [hr0] at hrd
                clear hrw hr0
                go_wp2_with (go_at_call 34; refine hrd.mono ?_; rintro e w9 ⟨rfl, hF9⟩)
                go_roundg (dps.length - (i + 1))
                case measure => rw [HK.out]; omega
                case rel => exact ⟨i + 1, s2, H', gs2, A2, c2, rfl, rfl, hlt, rfl, HQ.out.fr0 hF9, HRW.out, by omega, by omega⟩
              | cons x r =>
                have hrl : s2.row.length = r.length + 1 := by rw [hrw]; rfl
                have hrd := readyN_any HQ.out.at_
                rw [hrl] at hrd
                obtain ⟨rn, hrn⟩ : ∃ n, n = r.length + 1 := ⟨_, rfl⟩
                rw [← hrn] at hrd
                have b1 : decide (0 < (rn : Int)) = true := decide_eq_true (by omega)
                have b1' : decide (0 < rn) = true := decide_eq_true (by omega)
                clear hrn
                have hab2 : s2.abs.row = x.m :: r.map (·.m) := by show s2.row.map (·.m) = _; rw [hrw]; rfl
                have hle := HQ.out.inv.len_le
                have hgl : gs2.length ≤ mps.length := by
                  rw [HML.out, List.length_map] at hle
                  omega
                have b2 : decide ((gs2.length : Int) ≤ mps.length) = true := decide_eq_true (by omega)
                have htk : Rs.take s2.abs = some (x.m, { s2.abs with row := r.map (·.m) }) := by unfold Rs.take; rw [hab2]
                obtain ⟨j, hj, hxm⟩ := HQ.out.inv.mem (m := x.m) (by rw [hab2]; simp)
                have hjl : j < mps.length := by rw [← HML.out]; exact hj
                have hxl : x.m.bytes.length ≤ 32768 := by
                  rw [hxm, ← msg_at HMP.out j hjl]
                  exact (HMB.out _ (List.getElem_mem hjl)).2.2
                have hhd := Rs.take_held2 htk
                have HRL := Lib.hid hrl
                have HAB2 := Lib.hid hab2
                have HTK := Lib.hid htk
                have HHD := Lib.hid hhd
                clear hrl hab2 hle htk hxm hrw hhd
                generalize x.m = m at *
                go_wp2_with (go_at_call 34; refine hrd.mono ?_; rintro e w9 ⟨rfl, hF9⟩)
                have HQ9 := Lib.hid (HQ.out.fr0 hF9)
                clear HQ hF9
                go_at_call 37
                refine (take_any g s2 m _ w9 HQ9.out.at_ (by omega) HTK.out).mono ?_
                rintro e w10 ⟨b, cm, s3, rfl, hu3, hab3, hnx3, htu3, hL3, hb3, hnb3, hfb3⟩
                have hO10 : (w10.alloc (.cells #[.int .u16 m.stream, .bool m.ord, .slice (some ⟨b, 0, none⟩) m.bytes.length cm] 40)).ownsRow w3.heap.size 40 3 (.slice A2 gs2.length c2) gs2.length (mrow gs2) := own_fr0 (own_fr HQ9.out.own hu3.fr HQ9.out.far) (by repeat (first | (with_reducible exact Fr.refl _ _) | (with_reducible refine Fr.drewN ?_ _) | (with_reducible refine Fr.drew ?_) | (with_reducible refine Fr.alloc ?_ _)))
                have hs10 : w3.heap.size ≤ (w10.alloc (.cells #[.int .u16 m.stream, .bool m.ord, .slice (some ⟨b, 0, none⟩) m.bytes.length cm] 40)).heap.size := by
                  have h1 := HQ9.out.fr.size
                  have h2 := hu3.fr.size
                  simp
                  omega
                have hgx : w10.heap.size + 1 = (w10.alloc (.cells #[.int .u16 m.stream, .bool m.ord, .slice (some ⟨b, 0, none⟩) m.bytes.length cm] 40)).heap.size := by simp
                have haL : (gs2.length + 1) * 32 ≤ 140737488355328 := by omega
                have one : ∀ u ∈ [Value.int .u16 m.stream, .bool m.ord, .slice (some ⟨b, 0, none⟩) m.bytes.length cm], u.oneCell' = true := by
                  intro u hu; simp only [List.mem_cons, List.not_mem_nil, or_false] at hu; rcases hu with rfl | rfl | rfl <;> rfl
                have HONE := Lib.hid one
                have HO10 := Lib.hid hO10
                have HS10 := Lib.hid hs10
                have HGX := Lib.hid hgx
                have HU := Lib.hid hu3
                have HAB3 := Lib.hid hab3
                have HL3 := Lib.hid hL3
                have HB3 := Lib.hid hb3
                clear one hO10 hs10 hgx hu3 hab3 hnx3 hL3 hb3 hfb3
                go_wp2_with (first
                  | ((with_reducible refine gate_builtin (b := .append) (xs := #[.tmp 83, .tmp 85]) rfl ?_); at_builtin; go_must (refine app_cells (W := w10.alloc (.cells #[.int .u16 m.stream, .bool m.ord, .slice (some ⟨b, 0, none⟩) m.bytes.length cm] 40)) w3.heap.size (.tmp 83) (.tmp 85) 54 40 (.agg #[.int .u16 0, .bool false, .slice none 0 0]) 3 32 (.slice A2 gs2.length c2) gs2.length (mrow gs2) [.int .u16 m.stream, .bool m.ord, .slice (some ⟨b, 0, none⟩) m.bytes.length cm] ?hW ?hg ?ho Try.underlying54 info_msg rfl (by decide) (by decide) ?hs ?hx HGX.out rfl HONE.out HO10.out HS10.out haL ?_; (case hW => exact rfl); (case hg => rfl); (case ho => rfl); (case hs => rfl); (case hx => rfl)); intro v9 w11 hO9 hG9 hN9; obtain ⟨A9, c9, rfl⟩ := own_slice hO9; have HO9 := Lib.hid hO9; have HG9 := Lib.hid hG9; have HN9 := Lib.hid hN9; clear hO9 hG9 hN9))
                have hrow3 : s3.abs.row = r.map (·.m) := by rw [HAB3.out]
                have hrl3 : s3.row.length = r.length := by
                  have := congrArg List.length hrow3
                  rw [List.length_map] at this
                  rw [← this]
                  show _ = (s3.row.map (·.m)).length
                  rw [List.length_map]
                go_roundg s3.row.length
                case measure => rw [HK2.out, HRL.out, hrl3]; omega
                case rel => exact ⟨s3, gs2 ++ [⟨m, some ⟨b, 0, none⟩, cm⟩], A9, c9, by rw [List.length_append]; rfl, rfl, HQ9.out.take (by rw [hrow3]; exact HAB2.out) (by rw [HAB3.out]) HU.out HB3.out hnb3 (by omega) HL3.out (by repeat (first | (with_reducible exact Fr.refl _ _) | (with_reducible refine Fr.drewN ?_ _) | (with_reducible refine Fr.drew ?_) | (with_reducible refine Fr.alloc ?_ _))) HO9.out HG9.out HN9.out, by rw [htu3, ht2], by rw [HAB3.out, HHD.out]; omega⟩
          · have hd1 : decide ((i : Int) < at_.length) = false := decide_eq_false (by have := HATL.out; omega)
            have hd2 : decide (i < at_.length) = false := decide_eq_false (by have := HATL.out; omega)
            have hall : ∀ x ∈ G.flatten, x ∈ Rs.pcsAt G (at_.take i) := fun x hx => by
              obtain ⟨p, hp, he⟩ := Rs.flat_at hx
              rw [List.take_of_length_le (by have := HATL.out; omega)]
              exact Rs.pcsAt_mem.2 ⟨p, HP.out.mem_iff.2 (List.mem_range.2 (by rw [← HDL.out]; exact hp)), he⟩
            obtain ⟨e1, e2, e3, e4⟩ := HQ.out.inv.end_ HC.out hall (by show s.row.map (·.m) = []; rw [hrow]; rfl)
            rw [List.length_map, HML.out] at e1
            rw [← HMP.out] at e3 e4
            have b3 : ((gs.length : Int) != (mps.length : Int)) = false := by rw [e1]; simp
            have hat0 := HQ.out.at_
            rw [e2] at hat0
            have hof1 : ∀ w', Fr (fun _ => False) wr w' → ∀ st : Int, Calls Try.prog 44 #[.slice A gs.length c, .int .u16 st, .bool true] w' (OfP st true mps w') := fun w' hf st => by
              have := of_any A c _ gs st true w' (own_fr0 HQ.out.own hf) (by omega) (HQ.out.okM.fr0 hf)
              unfold OfP at this ⊢
              rwa [e3] at this
            have hof2 : ∀ w', Fr (fun _ => False) wr w' → ∀ st : Int, Calls Try.prog 44 #[.slice A gs.length c, .int .u16 st, .bool false] w' (OfP st false gs w') := fun w' hf st => of_any A c _ gs st false w' (own_fr0 HQ.out.own hf) (by omega) (HQ.out.okM.fr0 hf)
            have hokw : OkM wr mps := fun x hx => by
              obtain ⟨h1, h2, h3⟩ := HMB.out x hx
              refine ⟨(h1.fr0 F13).fr' HQ.out.fr (fun ad e hp' h => ?_), h2, by omega⟩
              obtain ⟨ad', e', hl, _⟩ := h1 hp'
              rw [e] at e'
              injection e' with e'
              subst e'
              have := hfoot _ h
              omega
            have howw := own_fr (own_fr0 HMW.out F13) HQ.out.fr (fun k hk => by
              have : k = gM := by simpa [Value.ownBlock] using hk.symm
              rw [this]
              exact hnx _ (.inr (.inl rfl)))
            have hof3 : ∀ w', Fr (fun _ => False) wr w' → ∀ (st : Int) (b : Bool), Calls Try.prog 44 #[.slice (some ⟨gM, 0, none⟩) mps.length d, .int .u16 st, .bool b] w' (OfP st b mps w') := fun w' hf st b => of_any _ d _ mps st b w' (own_fr0 howw hf) (by omega) (hokw.fr0 hf)
            have F0 : Fr (fun _ => False) w wr := F03.then HQ.out.fr (fun k hk => .inr (by have := hfoot k hk; omega))
            have hgl : gs.length ≤ 80 := by omega
            have HOF1 := Lib.hid hof1
            have HOF2 := Lib.hid hof2
            have HOF3 := Lib.hid hof3
            have HE4 := Lib.hid e4
            clear hof1 hof2 hof3 e1 e2 e3 e4 hokw howw hall
            go_wp2_with (go_at_call 30; refine (held_any hat0).mono ?_; rintro e w6 ⟨rfl, hf6⟩)
            go_loopg [17] 4 (fun k v17 w7 => ∃ q : Nat, v17 = .int .u16 q ∧ q ≤ 4 ∧ k = 4 - q ∧ Fr (fun _ => False) wr w7)
            case atStart => exact ⟨0, rfl, by omega, rfl, hf6⟩
            case round =>
              obtain ⟨q, rfl, hq4, hk7, hF7⟩ := hrel
              have HK7 := Lib.hid hk7
              clear hk7
              have sl : ∀ (st : Int) (b : Bool) (l : List Rs.Ms), (Rs.selM st b l).length ≤ l.length := fun st b l => List.length_filter_le _ _
              by_cases hlt4 : q < 4
              · have b4 : decide ((q : Int) < 4) = true := decide_eq_true (by omega)
                have hq4i : (q : Int) < 4 := by omega
                have s1 := sl q true (mps.map (·.m))
                have s2 := sl q false (gs.map (·.m))
                rw [List.length_map] at s1 s2
                have S1 := Lib.hid (Nat.le_trans s1 (show mps.length ≤ 1000 by omega))
                have S2 := Lib.hid (Nat.le_trans s2 (show gs.length ≤ 1000 by omega))
                have HQI := Lib.hid hq4i
                clear s1 s2 sl hlt4 hq4i
                go_wp2_with fail
                go_at_call 44
                refine (HOF1.out _ hF7 q).mono ?_
                rintro e wa ⟨Aa, ca, rfl, fa, Ca, la⟩
                have CA := Lib.hid Ca
                have LA := Lib.hid la
                clear Ca la
                go_wp2_with fail
                go_at_call 44
                refine (HOF3.out _ (hF7.trans fa) q true).mono ?_
                rintro e wb ⟨Ab, cb, rfl, fb, Cb, lb⟩
                have CB := Lib.hid Cb
                have LB := Lib.hid lb
                clear Cb lb
                go_wp2_with fail
                go_at_call 43
                refine (alike_any Aa Ab ca cb _ wb S1.out (Kd.C_below CA.out (fb.below (Nat.le_refl _) (fun _ h => h.elim))) LA.out CB.out LB.out).mono ?_
                rintro e wc ⟨rfl, fc⟩
                clear CA LA CB LB
                go_wp2_with fail
                have FC := ((hF7.trans fa).trans fb).trans fc
                go_at_call 44
                refine (HOF2.out _ FC q).mono ?_
                rintro e wd ⟨Ad, cd, rfl, fd, Cd, ld⟩
                have CD := Lib.hid Cd
                have LD := Lib.hid ld
                clear Cd ld
                go_wp2_with fail
                go_at_call 44
                refine (HOF3.out _ (FC.trans fd) q false).mono ?_
                rintro e we ⟨Ae, ce, rfl, fe, Ce, le⟩
                have CE := Lib.hid Ce
                have LE := Lib.hid le
                clear Ce le
                go_wp2_with fail
                go_at_call 45
                refine (mixed_any Ad Ae cd ce _ _ we S2.out (HE4.out q) (Kd.C_below CD.out (fe.below (Nat.le_refl _) (fun _ h => h.elim))) LD.out CE.out LE.out).mono ?_
                rintro e wf ⟨rfl, ff⟩
                clear CD LD CE LE
                have hq4i := HQI.out
                go_wp2_with fail
                go_roundg (4 - (q + 1))
                case measure => rw [HK7.out]; omega
                case rel => exact ⟨q + 1, by go_num, by omega, rfl, ((FC.trans fd).trans fe).trans ff⟩
              · have b4 : decide ((q : Int) < 4) = false := decide_eq_false (by omega)
                go_wp2_with (go_at_call 27; refine (works_any _).mono ?_; rintro e w8 ⟨rfl, hf8⟩)
                go_ret
                exact ⟨rfl, (F0.trans hF7).trans hf8⟩
end Go.Proofs.Ytpkbckkminmdmaa
