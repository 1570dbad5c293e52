/- The messages that are sent, read; pieces. -/
import Derived.Test.YtpkbckkminmdmaaOpn2
import Derived.Deep.RegionHeld3
import Derived.IntWalk
namespace Go.Proofs.Ytpkbckkminmdmaa
open Go.RowKit Go.Proofs.YtpkbckkminmdmaaW.PrintWords Go.Proofs.YtpkbckkminmdmaaW.PrintMore Go.Proofs.Ytpkbckkminmdmaa.PReasmHeld
attribute [local go_sem] alloc_drewN setCell_drewN isMap_alloc isMap_drew isMap_drewN isMap_setCell cell_setMap frozen_setMap setMap_drew setMap_drewN size_setMap field_piece0 field_data1 field_data3 field_data6

/-- The i-th message that is sent, in memory. -/
theorem sn_at {w : World} {A : Option Addr} {l : List Rs.Sn} (h : kSn.C w A l.length l) (i : Nat) (hi : i < l.length) : ∃ ad B c, A = some ad ∧ w.cell? (ad.add (i * 3)) = some (.int .u8 (l.getD i Rs.zSn).stream) ∧ w.cell? ⟨(ad.add (i * 3)).block, (ad.add (i * 3)).off + 1, none⟩ = some (.bool (l.getD i Rs.zSn).un) ∧
    w.cell? ⟨(ad.add (i * 3)).block, (ad.add (i * 3)).off + 2, none⟩ = some (.slice B (l.getD i Rs.zSn).parts.length c) ∧ (l.getD i Rs.zSn).parts.length ≤ c ∧ (Kd.slice 5 (Kd.int .u8)).C w B (l.getD i Rs.zSn).parts.length (l.getD i Rs.zSn).parts := by
  obtain ⟨ad, c, e, _, hK, hc0⟩ := Kd.C_get h Rs.zSn (i : Int) (by omega) (by omega)
  rw [Int.toNat_natCast] at hK hc0
  have hc : ∀ j u, c[j]? = some u → w.cell? (ad.add (i * 3 + j)) = some u := hc0
  obtain ⟨B, cB, rfl, lB, gB⟩ := kSn_open hK
  exact ⟨ad, B, cB, e, hc 0 _ rfl, by rw [← add_field _ _ 1 (by omega)]; exact hc 1 _ rfl, by rw [← add_field _ _ 2 (by omega)]; exact hc 2 _ rfl, lB, gB⟩
theorem part_at {w : World} {B : Option Addr} {xs : List (List Int)} (h : (Kd.slice 5 (Kd.int .u8)).C w B xs.length xs) (k : Nat) (hk : k < xs.length) : ∃ bd D c, B = some bd ∧ w.cell? (bd.add k) = some (.slice D xs[k].length c) ∧ xs[k].length ≤ c ∧ (Kd.int .u8).C w D xs[k].length xs[k] := by
  obtain ⟨bd, D, c, h1, h2, h3, h4⟩ := at_L5 h (k : Int) (by omega) (by omega)
  have e : rd_L5 xs (k : Int) = xs[k] := by
    unfold rd_L5
    rw [Int.toNat_natCast, List.getD_eq_getElem?_getD, List.getElem?_eq_getElem hk]
    rfl
  rw [e] at h2 h3 h4
  rw [Int.toNat_natCast] at h2
  exact ⟨bd, D, c, h1, h2, h3, h4⟩
theorem reads_of_bin {w : World} {A : Option Addr} {bs : List Int} (h : BIn w A bs) (hl : bs.length ≤ 1000000) : ReadsInt w .u8 A bs.length bs := by
  exact ⟨rfl, by omega, fun hp => by obtain ⟨ad, e, _, hc⟩ := h hp; exact ⟨ad, e, hc⟩⟩
/-- A piece in a list, with its bytes' place. -/
structure Dp where
  p : Rs.Pc
  A : Option Addr
  c : Nat
def drow (l : List Dp) : List Value := l.flatMap fun d => (dcells d.p d.A d.c).toList
structure Mp where
  m : Rs.Ms
  A : Option Addr
  c : Nat
def mrow (l : List Mp) : List Value := l.flatMap fun d => [.int .u16 d.m.stream, .bool d.m.ord, .slice d.A d.m.bytes.length d.c]
theorem drow_snoc (l : List Dp) (d : Dp) : drow (l ++ [d]) = drow l ++ (dcells d.p d.A d.c).toList := by unfold drow; rw [List.flatMap_append, List.flatMap_cons, List.flatMap_nil, List.append_nil]
theorem mrow_snoc (l : List Mp) (d : Mp) : mrow (l ++ [d]) = mrow l ++ [.int .u16 d.m.stream, .bool d.m.ord, .slice d.A d.m.bytes.length d.c] := by unfold mrow; rw [List.flatMap_append, List.flatMap_cons, List.flatMap_nil, List.append_nil]
theorem own_fr {S : Nat → Prop} {w w1 : World} {base n size : Nat} {e : TypeId} {v : Value} {xs : List Value} (h : w.ownsRow base e size v n xs) (hf : Fr S w w1) (hS : ∀ k, v.ownBlock = some k → ¬ S k) : w1.ownsRow base e size v n xs :=
  own_move h fun k hk => hf.block k (own_lt h k hk) (hS k hk)
theorem own_fr0 {w w1 : World} {base n size : Nat} {e : TypeId} {v : Value} {xs : List Value} (h : w.ownsRow base e size v n xs) (hf : Fr (fun _ => False) w w1) : w1.ownsRow base e size v n xs := own_fr h hf fun _ _ h => h
theorem own_nblk {w : World} {base n size g : Nat} {e t : TypeId} {v : Value} {xs : List Value} {cs : Array Value} (h : w.ownsRow base e size v n xs) (hb : Blk w g t cs) (hne : e ≠ t) : ∀ k, v.ownBlock = some k → k ≠ g := fun k hk e' => by
  obtain ⟨cells, hc⟩ := own_typed h k hk
  subst e'
  unfold Blk at hb
  rw [hc] at hb
  injection hb with hb
  injection hb with _ hb
  exact hne hb
theorem own_type_no {w : World} {b b' : Nat} {e e' : TypeId} {s s' n n' : Nat} {v v' : Value} {xs xs' : List Value} (h : w.ownsRow b e s v n xs) (h' : w.ownsRow b' e' s' v' n' xs') (hne : e ≠ e') {k : Nat} (hk : v.ownBlock = some k) (hk' : v'.ownBlock = some k) : False := by
  rcases own_type_ne h h' hne with h1 | h1
  · rw [h1] at hk; cases hk
  · exact h1 (hk.trans hk'.symm)
section
variable {P : Program} {ops : Array Oper} {rest : List Oper} {o : Oper} {a : Act} {Q : Exit → Act → World → Prop}
theorem app_cells {W W' : World} (base : Nat) (s x : Operand) (t e : TypeId) (z : Value) (size bytes : Nat) (v : Value) (n : Nat) (xs ys : List Value) (hW : W' = W.alloc (.cells ys.toArray e)) (hgd : o.guard = none)
    (ho : o.op = .call { callee := .builtin .append, args := #[s, x], argTypes := #[t, t] })
    (ht : P.underlying t = some (.slice e)) (hinfo : (P.info? e).map (fun i => (i.zero, i.size, i.bytes)) = some (some z, size, bytes)) (hz : z.cells.size = size) (hs0 : 0 < size) (hb0 : 0 < bytes)
    (hs : a.eval s = v) {gx : Nat} (hx : a.eval x = .slice (some ⟨gx, 0, none⟩) 1 1) (hgx : gx = W.heap.size) (hys : ys.length = size) (h1 : ∀ u ∈ ys, u.oneCell' = true)
    (HO : W.ownsRow base e size v n xs) (hbase : base ≤ W.heap.size) (hl : (n + 1) * bytes ≤ 140737488355328)
    (h : ∀ v1 w1, w1.ownsRow base e size v1 (n + 1) (xs ++ ys) → W.grownBy w1 v.ownBlock → (v1.ownBlock = v.ownBlock ∨ ∃ b, v1.ownBlock = some b ∧ W.heap.size ≤ b) → wpList P ops Q rest (a.put o.dst v1) w1) :
    wpList P ops Q (o :: rest) a W' := by
  subst hW
  subst hgx
  exact print_append_cells (w0 := W) base hgd s x t e z size bytes ho ht hinfo hz hs0 hb0 v n xs ys hs hx hys h1 HO ⟨rfl, rfl, rfl, Nat.le_refl _, fun _ _ => rfl⟩ hbase hl (fun v1 w1 h2 _ h3 h4 => h v1 w1 h2 h3 h4)
end
theorem info_data : (Try.prog.info? 33).map (fun i => (i.zero, i.size, i.bytes)) = some (some (.agg #[.int .u32 0, .int .u16 0, .int .u16 0, .bool false, .bool false, .bool false, .slice none 0 0]), 7, 40) := by kernel_rfl
def ssnA (l : List Rs.Sn) (i : Nat) : Array Value := #[.int .u16 (Rs.ordN l 0 i), .int .u16 (Rs.ordN l 1 i), .int .u16 (Rs.ordN l 2 i), .int .u16 (Rs.ordN l 3 i)]
theorem ssnA_get (l : List Rs.Sn) (i q : Nat) (h : q < 4) : (ssnA l i)[q]? = some (.int .u16 (Rs.ordN l q i)) := by
  match q, h with
  | 0, _ => rfl
  | 1, _ => rfl
  | 2, _ => rfl
  | 3, _ => rfl
theorem ordN_le (l : List Rs.Sn) (st : Int) : ∀ n, Rs.ordN l st n ≤ n
  | 0 => Nat.le_refl _
  | n + 1 => by
    have := ordN_le l st n
    rw [Rs.ordN]
    split <;> omega
theorem ssnA_un (l : List Rs.Sn) (i : Nat) (h : (l.getD i Rs.zSn).un = true) : ssnA l (i + 1) = ssnA l i := by
  unfold ssnA
  simp only [Rs.ordN, h, Bool.not_true, Bool.false_and, Bool.false_eq_true, if_false, Nat.add_zero]
theorem ssnA_ord (l : List Rs.Sn) (i q : Nat) (hq : q < 4) (h : (l.getD i Rs.zSn).un = false) (hs : (l.getD i Rs.zSn).stream % 4 = q) : (ssnA l i).setIfInBounds q (.int .u16 ((Rs.ordN l q i : Int) + 1)) = ssnA l (i + 1) := by
  unfold ssnA
  simp only [Rs.ordN, h, hs, Bool.not_false, Bool.true_and]
  match q, hq with
  | 0, _ => simp
  | 1, _ => simp
  | 2, _ => simp
  | 3, _ => simp
def PiecesP (first : Int) (l : List Rs.Sn) (w : World) (e : Ending) (w' : World) : Prop :=
  (e = .returned (.tuple #[.slice none 0 0, .slice none 0 0]) ∧ Fr (fun _ => False) w w') ∨
  ∃ A c B d dps mps, e = .returned (.tuple #[.slice A (List.length dps) c, .slice B (List.length mps) d]) ∧ Fr (fun _ => False) w w' ∧ w'.ownsRow w.heap.size 33 7 (.slice A dps.length c) dps.length (drow dps) ∧ w'.ownsRow w.heap.size 40 3 (.slice B mps.length d) mps.length (mrow mps) ∧
    dps.map (·.p) = (Rs.cutsN first l l.length).flatten ∧ mps.map (·.m) = (Rs.cutsN first l l.length).map Rs.msgOf ∧ Rs.Good l l.length ∧ (∀ x ∈ dps, BIn w' x.A x.p.bytes ∧ x.p.bytes.length ≤ x.c ∧ x.p.bytes.length ≤ 32768) ∧ (∀ x ∈ mps, BIn w' x.A x.m.bytes ∧ x.m.bytes.length ≤ x.c ∧ x.m.bytes.length ≤ 32768)
set_option maxRecDepth 100000 in
set_option maxHeartbeats 8000000 in
theorem pieces_any (first : Int) (A0 : Option Addr) (c0 : Nat) (l : List Rs.Sn) (w : World) (_hf0 : 0 ≤ first) (_hf1 : first < 4294967296) (hC : kSn.C w A0 l.length l) (hl : l.length ≤ 80) (hq : ∀ x ∈ l, QSn x) :
    Calls Try.prog 39 #[.int .u32 first, .slice A0 l.length c0] w (PiecesP first l w) := by
  go_enter Try.func39, Try.ntmps39
  go_wp2_with fail
  go_loopg [6, 7, 9, 10] l.length (fun k v6 v7 v9 v10 wr => ∃ (i : Nat) (dps : List Dp) (mps : List Mp) (A : Option Addr) (c : Nat) (B : Option Addr) (d N : Nat), v6 = .slice A dps.length c ∧ v7 = .slice B mps.length d ∧ v9 = .int .i64 N ∧ v10 = .int .i64 i ∧ i ≤ l.length ∧ k = l.length - i ∧ Fr (fun _ => False) w wr ∧
    wr.ownsRow w.heap.size 33 7 (.slice A dps.length c) dps.length (drow dps) ∧ wr.ownsRow w.heap.size 40 3 (.slice B mps.length d) mps.length (mrow mps) ∧ Blk wr w.heap.size 145 (ssnA l i) ∧
    dps.map (·.p) = (Rs.cutsN first l i).flatten ∧ mps.map (·.m) = (Rs.cutsN first l i).map Rs.msgOf ∧ Rs.Good l i ∧ (∀ x ∈ dps, BIn w x.A x.p.bytes ∧ x.p.bytes.length ≤ x.c ∧ x.p.bytes.length ≤ 32768) ∧ (∀ x ∈ mps, Own wr w.heap.size x.A x.c x.m.bytes ∧ x.m.bytes.length ≤ 32768) ∧ N ≤ 32768 ∧ dps.length ≤ 81)
  case atStart =>
    refine ⟨0, [], [], none, 0, none, 0, 0, rfl, rfl, rfl, rfl, Nat.zero_le _, rfl, (by repeat (first | (with_reducible exact Fr.refl _ _) | (with_reducible refine Fr.drewN ?_ _) | (with_reducible refine Fr.drew ?_) | (with_reducible refine Fr.alloc ?_ _))), ⟨by simp [drow], .inl ⟨rfl, rfl⟩⟩, ⟨by simp [mrow], .inl ⟨rfl, rfl⟩⟩, Blk.new w 145 _, rfl, rfl, ⟨fun i h => absurd h (Nat.not_lt_zero _), fun i h => absurd h (Nat.not_lt_zero _), Nat.zero_le _, fun i h => absurd h (Nat.not_lt_zero _)⟩, by simp, by simp, Nat.zero_le _, Nat.zero_le _⟩
  case round =>
    obtain ⟨i, dps, mps, A, c, B, d, N, rfl, rfl, rfl, rfl, hi, hk, hF, hO, hM, hb8, hdp, hmp, hg, hdb, hmb, hN, hdl⟩ := hrel
    have HK := Lib.hid hk
    have HDP := Lib.hid hdp
    have HMP := Lib.hid hmp
    have HO := Lib.hid hO
    have HM := Lib.hid hM
    have HDB := Lib.hid hdb
    have HMB := Lib.hid hmb
    clear hk hdp hmp hO hM hdb hmb
    by_cases hlt : i < l.length
    · have hd1 : decide ((i : Int) < l.length) = true := decide_eq_true (by omega)
      obtain ⟨ad, Bp, cp, rfl, e0, e1, e2, hle2, hCp⟩ := sn_at hC i hlt
      have hqi : QSn (l.getD i Rs.zSn) := hq _ (by rw [List.getD_eq_getElem?_getD, List.getElem?_eq_getElem hlt]; exact List.getElem_mem hlt)
      have hbel : Below w.heap.size w wr := hF.below (Nat.le_refl _) (fun _ h => h.elim)
      have hadl := World.block_lt_of_cell? w _ e0
      obtain ⟨q, hqq, hq4⟩ : ∃ q : Nat, (l.getD i Rs.zSn).stream % 4 = q ∧ q < 4 := ⟨((l.getD i Rs.zSn).stream % 4).toNat, by omega, by omega⟩
      obtain ⟨⟨hq0, hq1⟩, hqb⟩ := hqi
      have HQQ := Lib.hid hqq
      generalize hsn : l.getD i Rs.zSn = sn at *
      have HSN := Lib.hid hsn
      clear hsn hqq
      have E0 := pw_cell_below hbel e0
      have E1 := pw_cell_below hbel e1
      have E2 := pw_cell_below hbel e2
      have hal : (ad.add (i * 3)).block < wr.heap.size := hF.lt_of hadl
      have hals : ∀ k, (ad.add (i * 3)).block < wr.heap.size + k := fun k => by omega
      have b8 := hb8.cell
      have b8l := hb8.lt
      have b8s := hb8.lts
      obtain ⟨un, hun⟩ : ∃ un, sn.un = un := ⟨_, rfl⟩
      rw [hun] at e1 E1
      have HUN := Lib.hid hun
      clear hun
      cases un with
      | true =>
        by_cases hpl : sn.parts.length = 0
        · have bz : ((sn.parts.length : Int) == 0) = true := beq_iff_eq.2 (by omega)
          clear hpl
          go_wp2_with fail
          go_returns
          exact .inl ⟨rfl, (hF.alloc _).trans (by repeat (first | (with_reducible exact Fr.refl _ _) | (with_reducible refine Fr.drewN ?_ _) | (with_reducible refine Fr.drew ?_) | (with_reducible refine Fr.alloc ?_ _)))⟩
        · have bz : ((sn.parts.length : Int) == 0) = false := beq_eq_false_iff_ne.2 (by omega)
          have hpl' : 0 < sn.parts.length := by omega
          clear hpl
          go_wp2_with fail
          rw [HQQ.out]
          obtain ⟨W0, rfl⟩ : ∃ W0, W0 = wr := ⟨wr, rfl⟩
          have hb12 := Blk.new W0 40 #[.int .u16 (q : Int), .bool (!true), .slice none 0 0]
          go_loopg [6, 9, 13] sn.parts.length (fun k v6 v9 v13 w2 => ∃ (j : Nat) (dps2 : List Dp) (A2 : Option Addr) (c2 : Nat) (mA : Option Addr) (mc N2 : Nat) (mb : List Int), v6 = .slice A2 dps2.length c2 ∧ v9 = .int .i64 N2 ∧ v13 = .int .i64 j ∧ j ≤ sn.parts.length ∧ k = sn.parts.length - j ∧
            Fr (fun k => (Value.slice A dps.length c).ownBlock = some k) W0 w2 ∧ w2.ownsRow w.heap.size 33 7 (.slice A2 dps2.length c2) dps2.length (drow dps2) ∧ (∀ k, (Value.slice A2 dps2.length c2).ownBlock = some k → (Value.slice A dps.length c).ownBlock = some k ∨ W0.heap.size ≤ k) ∧
            Blk w2 W0.heap.size 40 #[.int .u16 (q : Int), .bool (!true), .slice mA mb.length mc] ∧ Own w2 W0.heap.size mA mc mb ∧ mb = (sn.parts.take j).flatten ∧
            dps2.map (·.p) = (Rs.cutsN first l i).flatten ++ (Rs.cutOne first (Rs.offN l i) (Rs.ordN l (sn.stream % 4) i) sn).take j ∧ (∀ x ∈ dps2, BIn w x.A x.p.bytes ∧ x.p.bytes.length ≤ x.c ∧ x.p.bytes.length ≤ 32768) ∧ (∀ b ∈ sn.parts.take j, 0 < b.length) ∧ N2 ≤ 32768 ∧ mb.length ≤ N2 ∧ dps2.length ≤ 81)
          case atStart =>
            exact ⟨0, dps, A, c, none, 0, N, [], rfl, rfl, rfl, Nat.zero_le _, rfl, (by repeat (first | (with_reducible exact Fr.refl _ _) | (with_reducible refine Fr.drewN ?_ _) | (with_reducible refine Fr.drew ?_) | (with_reducible refine Fr.alloc ?_ _))), own_fr0 HO.out (by repeat (first | (with_reducible exact Fr.refl _ _) | (with_reducible refine Fr.drewN ?_ _) | (with_reducible refine Fr.drew ?_) | (with_reducible refine Fr.alloc ?_ _))), (fun k h => .inl h), hb12, ⟨by simp [nums], .inl ⟨rfl, rfl⟩⟩, rfl, by rw [HDP.out]; simp, HDB.out, by simp, hN, by simp, hdl⟩
          case round =>
            obtain ⟨j, dps2, A2, c2, mA, mc, N2, mb, rfl, rfl, rfl, hj, hk2, hF2, hO2, hA2, hb12', hmO, hmb2, hdp2, hdb2, hpb, hN2, hmN, hdl2⟩ := hrel
            have HK2 := Lib.hid hk2
            have HO2 := Lib.hid hO2
            have HDP2 := Lib.hid hdp2
            have HDB2 := Lib.hid hdb2
            have HPB := Lib.hid hpb
            have HMO := Lib.hid hmO
            have HMB2 := Lib.hid hmb2
            clear hmb2 hk2 hO2 hdp2 hdb2 hpb hmO E0 E1 E2 b8 b8l b8s hb12
            have F2 : Fr (fun _ => False) w wr := hF.then hF2 (fun k hk => .inr (own_base HO.out k hk))
            have hbel2 : Below w.heap.size w wr := F2.below (Nat.le_refl _) (fun _ h => h.elim)
            have E0 := pw_cell_below hbel2 e0
            have E1 := pw_cell_below hbel2 e1
            have E2 := pw_cell_below hbel2 e2
            have hal2 : (ad.add (i * 3)).block < wr.heap.size := F2.lt_of hadl
            have hals2 : ∀ k, (ad.add (i * 3)).block < wr.heap.size + k := fun k => by omega
            have hb8' := hb8.fr hF2 (fun h => own_nblk HO.out hb8 (by decide) _ h rfl)
            obtain ⟨k8, l8, m8, f8⟩ := hb8'.facts
            obtain ⟨k12, l12, m12, f12⟩ := hb12'.facts
            by_cases hjl : j < sn.parts.length
            · have hd2 : decide ((j : Int) < sn.parts.length) = true := decide_eq_true (by omega)
              obtain ⟨bd, D, cD, rfl, ep, hDl, hDC⟩ := part_at hCp j hjl
              have EP := pw_cell_below hbel2 ep
              have hbz : sn.parts[j].length ≤ 140737488351232 := hqb _ (List.getElem_mem hjl)
              have hfl : (sn.parts.take (j + 1)).flatten = (sn.parts.take j).flatten ++ sn.parts[j] := by rw [List.take_succ_eq_append_getElem hjl, List.flatten_append, List.flatten_cons, List.flatten_nil, List.append_nil]
              have HFL := Lib.hid hfl
              have htk : ∀ x ∈ sn.parts.take (j + 1), x ∈ sn.parts.take j ∨ x = sn.parts[j] := fun x hx => by
                rw [List.take_succ_eq_append_getElem hjl] at hx
                rcases List.mem_append.1 hx with h | h
                · exact .inl h
                · exact .inr (by simpa using h)
              have HTK := Lib.hid htk
              have hcut : (Rs.cutOne first (Rs.offN l i) (Rs.ordN l (sn.stream % 4) i) sn).take (j + 1) = (Rs.cutOne first (Rs.offN l i) (Rs.ordN l (sn.stream % 4) i) sn).take j ++ [⟨(first + (Rs.offN l i + j : Nat)) % 4294967296, sn.stream % 4, if sn.un then 0 else (Rs.ordN l (sn.stream % 4) i : Int), sn.un, decide (j = 0), decide (j + 1 = sn.parts.length), sn.parts[j]⟩] := by
                have hl' : j < (Rs.cutOne first (Rs.offN l i) (Rs.ordN l (sn.stream % 4) i) sn).length := by rw [Rs.cutOne_len]; exact hjl
                rw [List.take_succ_eq_append_getElem hl', Rs.cutOne_get _ _ _ j hjl]
              have HCUT := Lib.hid hcut
              clear hfl htk hcut ep
              generalize sn.parts[j] = b at *
              by_cases hbad : b.length = 0 ∨ 32768 < N2 + b.length ∨ 80 < dps2.length
              · by_cases hb1 : b.length = 0
                · have bz1 : ((b.length : Int) == 0) = true := beq_iff_eq.2 (by omega)
                  clear hbad hb1
                  go_wp2_with fail
                  go_returns
                  exact .inl ⟨rfl, F2.trans (by repeat (first | (with_reducible exact Fr.refl _ _) | (with_reducible refine Fr.drewN ?_ _) | (with_reducible refine Fr.drew ?_) | (with_reducible refine Fr.alloc ?_ _)))⟩
                · have bz1 : ((b.length : Int) == 0) = false := beq_eq_false_iff_ne.2 (by omega)
                  by_cases hb2 : 32768 < N2 + b.length
                  · have bz2 : decide (32768 < (N2 : Int) + b.length) = true := decide_eq_true (by omega)
                    clear hbad hb1 hb2
                    go_wp2_with fail
                    go_returns
                    exact .inl ⟨rfl, F2.trans (by repeat (first | (with_reducible exact Fr.refl _ _) | (with_reducible refine Fr.drewN ?_ _) | (with_reducible refine Fr.drew ?_) | (with_reducible refine Fr.alloc ?_ _)))⟩
                  · have bz2 : decide (32768 < (N2 : Int) + b.length) = false := decide_eq_false (by omega)
                    have bz3 : decide (80 < (dps2.length : Int)) = true := decide_eq_true (by omega)
                    clear hbad hb1 hb2
                    go_wp2_with fail
                    go_returns
                    exact .inl ⟨rfl, F2.trans (by repeat (first | (with_reducible exact Fr.refl _ _) | (with_reducible refine Fr.drewN ?_ _) | (with_reducible refine Fr.drew ?_) | (with_reducible refine Fr.alloc ?_ _)))⟩
              · have bz1 : ((b.length : Int) == 0) = false := beq_eq_false_iff_ne.2 (by omega)
                have bz2 : decide (32768 < (N2 : Int) + b.length) = false := decide_eq_false (by omega)
                have bz3 : decide (80 < (dps2.length : Int)) = false := decide_eq_false (by omega)
                have hbl : b.length ≤ 32768 := by omega
                have hdl3 : dps2.length ≤ 80 := by omega
                have hb0 : 0 < b.length := by omega
                have hN3 : N2 + b.length ≤ 32768 := by omega
                clear hbad
                go_wp2_with fail
                have s1 : IntKind.i64.wrap ((sn.parts.length : Int) - 1) = (sn.parts.length : Int) - 1 := IntWalk.i64_in _ (by have := hCp.2.1; omega)
                have s2 : IntKind.u32.wrap (dps2.length : Int) = (dps2.length : Int) := by rw [wrap_u32]; omega
                have s3 : IntKind.u32.wrap (first + (dps2.length : Int)) = (first + (dps2.length : Int)) % 4294967296 := wrap_u32 _
                have s4 : ((j : Int) == 0) = decide (j = 0) := by rw [Bool.eq_iff_iff]; simp
                have s5 : ((j : Int) == (sn.parts.length : Int) - 1) = decide (j + 1 = sn.parts.length) := by rw [Bool.eq_iff_iff, beq_iff_eq, decide_eq_true_eq]; omega
                go_region_held3 (fun w' => w'.cell? ⟨(ad.add (i * 3)).block, (ad.add (i * 3)).off + 1, none⟩ = some (.bool true) ∧ w'.cell? ⟨(ad.add (i * 3)).block, (ad.add (i * 3)).off + 2, none⟩ = some (.slice (some bd) sn.parts.length cp)) (go_keep) (fail)
                clear s1 s2 s3 s4 s5
                have hlen : dps2.length = Rs.offN l i + j := by
                  have h1 := congrArg List.length HDP2.out
                  rw [List.length_map, List.length_append, Rs.flat_len, List.length_take, Rs.cutOne_len, Nat.min_eq_left hj] at h1
                  exact h1
                have hj80 : j ≤ 80 := by omega
                have hjc : (((j + 1 : Nat) : Int)) = (j : Int) + 1 := by omega
                have HJC := Lib.hid hjc
                have HLEN := Lib.hid hlen
                clear hlen hjc
                have hb15 := (Blk.new wr 33 #[.int .u32 ((first + (dps2.length : Int)) % 4294967296), .int .u16 (q : Int), .int .u16 0, .bool true, .bool (decide (j = 0)), .bool (decide (j + 1 = sn.parts.length)), .slice D b.length cD]).drew
                have hO15 : ((wr.alloc (.cells #[.int .u32 ((first + (dps2.length : Int)) % 4294967296), .int .u16 (q : Int), .int .u16 0, .bool true, .bool (decide (j = 0)), .bool (decide (j + 1 = sn.parts.length)), .slice D b.length cD] 33)).drew).ownsRow w.heap.size 33 7 (.slice A2 dps2.length c2) dps2.length (drow dps2) := own_fr0 HO2.out (by repeat (first | (with_reducible exact Fr.refl _ _) | (with_reducible refine Fr.drewN ?_ _) | (with_reducible refine Fr.drew ?_) | (with_reducible refine Fr.alloc ?_ _)))
                have F15 : Fr (fun _ => False) wr ((wr.alloc (.cells #[.int .u32 ((first + (dps2.length : Int)) % 4294967296), .int .u16 (q : Int), .int .u16 0, .bool true, .bool (decide (j = 0)), .bool (decide (j + 1 = sn.parts.length)), .slice D b.length cD] 33)).drew) := (by repeat (first | (with_reducible exact Fr.refl _ _) | (with_reducible refine Fr.drewN ?_ _) | (with_reducible refine Fr.drew ?_) | (with_reducible refine Fr.alloc ?_ _)))
                have HO5 := Lib.hid hO15
                have HF5w := Lib.hid F15
                have HF5 := Lib.hid (F2.trans F15)
                have HS5 := Lib.hid (F2.trans F15).size
                clear hO15 F15
                have one : ∀ u ∈ [Value.int .u32 ((first + (dps2.length : Int)) % 4294967296), .int .u16 (q : Int), .int .u16 0, .bool true, .bool (decide (j = 0)), .bool (decide (j + 1 = sn.parts.length)), .slice D b.length cD], u.oneCell' = true := by
                  intro u hu; simp only [List.mem_cons, List.not_mem_nil, or_false] at hu; rcases hu with rfl | rfl | rfl | rfl | rfl | rfl | rfl <;> rfl
                have hgx : wr.heap.size + 1 = ((wr.alloc (.cells #[.int .u32 ((first + (dps2.length : Int)) % 4294967296), .int .u16 (q : Int), .int .u16 0, .bool true, .bool (decide (j = 0)), .bool (decide (j + 1 = sn.parts.length)), .slice D b.length cD] 33)).drew).heap.size := by simp
                have HONE := Lib.hid one
                have HGX := Lib.hid hgx
                have haL : (dps2.length + 1) * 40 ≤ 140737488355328 := by omega
                clear one hgx
                go_wp2_with (first
                  | ((with_reducible refine gate_builtin (b := .append) (xs := #[.tmp 112, .tmp 114]) rfl ?_); at_builtin; (refine app_cells w.heap.size (.tmp 112) (.tmp 114) 53 33 (.agg #[.int .u32 0, .int .u16 0, .int .u16 0, .bool false, .bool false, .bool false, .slice none 0 0]) 7 40 (.slice A2 dps2.length c2) dps2.length (drow dps2) [.int .u32 ((first + (dps2.length : Int)) % 4294967296), .int .u16 (q : Int), .int .u16 0, .bool true, .bool (decide (j = 0)), .bool (decide (j + 1 = sn.parts.length)), .slice D b.length cD] ?hW ?hg ?ho Try.underlying53 info_data rfl (by decide) (by decide) ?hs ?hx HGX.out rfl HONE.out HO5.out HS5.out haL ?_; (case hW => exact rfl); (case hg => rfl); (case ho => rfl); (case hs => rfl); (case hx => rfl)); intro v6 w6 hO6 hG6 hN6; obtain ⟨A6, c6, rfl⟩ := own_slice hO6; have F6 := (HF5.out.then (grown_fr hG6) (fun k hk => .inr (own_base HO5.out k hk))); have hb12b := (hb12'.fr HF5w.out (fun h => h)).fr (grown_fr hG6) (fun h => own_nblk HO5.out (hb12'.fr HF5w.out (fun h => h)) (by decide) _ h rfl); clear k12 l12 m12 f12 k8 l8 m8 f8; obtain ⟨k12, l12, m12, f12⟩ := hb12b.facts; have HO6 := Lib.hid hO6; have HG6 := Lib.hid hG6; have HN6 := Lib.hid hN6; have HF6 := Lib.hid F6; have HB12 := Lib.hid hb12b; clear hO6 hG6 hN6 F6 hb12b)
                  | ((with_reducible refine gate_builtin (b := .append) (xs := #[.tmp 117, .tmp 118]) rfl ?_); at_builtin; go_must (refine print_append_row (w0 := w6) W0.heap.size rfl (.tmp 117) (.tmp 118) 31 5 .u8 1 rfl Try.underlying31 info5 (by decide) (.slice mA mb.length mc) mb b D b.length cD rfl rfl ?bO ?bR ?bB ?bS ?bL ?_; (case bO => exact own_fr (own_fr0 HMO.out HF5w.out) (grown_fr HG6.out) (fun k hk hk2 => own_type_no (own_fr0 HMO.out HF5w.out) HO5.out (by decide) hk hk2)); (case bR => exact reads_of_bin ((bin_of_reads hDC).fr0 HF6.out) (by omega)); (case bB => exact Below.refl _ _); (case bS => exact Nat.le_of_lt l12); (case bL => omega)); intro v7 w7 hO7 hB7 hG7 hN7; obtain ⟨mA7, mc7, rfl⟩ := own_slice hO7; have HO7 := Lib.hid hO7; have HG7 := Lib.hid hG7; have HB7 := Lib.hid (HB12.out.fr (grown_fr hG7) (fun h => own_nblk (own_fr (own_fr0 HMO.out HF5w.out) (grown_fr HG6.out) (fun k hk hk2 => own_type_no (own_fr0 HMO.out HF5w.out) HO5.out (by decide) hk hk2)) HB12.out (by decide) _ h rfl)); obtain ⟨j12, n12, o12, p12⟩ := HB7.out.facts; clear hO7 hB7 hG7 hN7 k12 l12 m12 f12))
                go_roundg (sn.parts.length - (j + 1))
                case measure => rw [HK2.out]; omega
                case rel =>
                  have hmO5 := own_fr0 HMO.out HF5w.out
                  have hmO6 := own_fr hmO5 (grown_fr HG6.out) (fun k hk hk2 => own_type_no hmO5 HO5.out (by decide) hk hk2)
                  have hG : Fr (fun k => (Value.slice A dps.length c).ownBlock = some k) W0 w7 := (((hF2.then HF5w.out (fun k hk => hk.elim)).then (grown_fr HG6.out) (fun k hk => hA2 k hk)).then (grown_fr HG7.out) (fun k hk => .inr (own_base HMO.out k hk)))
                  have hO7d := own_fr HO6.out (grown_fr HG7.out) (fun k hk hk2 => own_type_no HO6.out hmO6 (by decide) hk hk2)
                  refine ⟨j + 1, dps2 ++ [⟨⟨(first + (Rs.offN l i + j : Nat)) % 4294967296, sn.stream % 4, if sn.un then 0 else (Rs.ordN l (sn.stream % 4) i : Int), sn.un, decide (j = 0), decide (j + 1 = sn.parts.length), b⟩, D, cD⟩], A6, c6, mA7, mc7, N2 + b.length, mb ++ b, by rw [List.length_append]; rfl, rfl, by rw [HJC.out], hjl, rfl, hG.setAt (.inr (Nat.le_refl _)), ?_, ?_, ?_, ?_, by rw [HFL.out, HMB2.out], ?_, ?_, ?_, hN3, by rw [List.length_append]; omega, by rw [List.length_append]; show dps2.length + 1 ≤ 81; omega⟩
                  · rw [List.length_append, drow_snoc]
                    have e : (dcells ⟨(first + (Rs.offN l i + j : Nat)) % 4294967296, sn.stream % 4, if sn.un then 0 else (Rs.ordN l (sn.stream % 4) i : Int), sn.un, decide (j = 0), decide (j + 1 = sn.parts.length), b⟩ D cD).toList = [.int .u32 ((first + (dps2.length : Int)) % 4294967296), .int .u16 (q : Int), .int .u16 (0), .bool true, .bool (decide (j = 0)), .bool (decide (j + 1 = sn.parts.length)), .slice D b.length cD] := by
                      simp only [dcells, HUN.out, HQQ.out, HLEN.out]
                      rfl
                    rw [e]
                    exact own_fr (S := (· = W0.heap.size)) hO7d (Fr.refl _ _).setOne (own_nblk hO7d HB7.out (by decide))
                  · intro k hk
                    rw [List.length_append] at hk
                    rcases HN6.out with h | ⟨bb, h, hb⟩
                    · exact hA2 k (h.symm.trans hk)
                    · have : bb = k := by rw [show ([(⟨⟨(first + (Rs.offN l i + j : Nat)) % 4294967296, sn.stream % 4, if sn.un then 0 else (Rs.ordN l (sn.stream % 4) i : Int), sn.un, decide (j = 0), decide (j + 1 = sn.parts.length), b⟩, D, cD⟩ : Dp)]).length = 1 from rfl] at hk; exact Option.some.inj (h.symm.trans hk)
                      subst this
                      exact .inr (Nat.le_trans (Nat.le_trans hF2.size HF5w.out.size) hb)
                  · rw [List.length_append]
                    exact HB7.out.set 2 _
                  · have h1 : Own w7 W0.heap.size mA7 mc7 (mb ++ b) := HO7.out
                    exact own_fr (S := (· = W0.heap.size)) h1 (Fr.refl _ _).setOne (own_nblk h1 HB7.out (by decide))
                  · rw [List.map_append, HDP2.out, HCUT.out, List.append_assoc]
                    rfl
                  · intro x hx
                    rcases List.mem_append.1 hx with hx | hx
                    · exact HDB2.out x hx
                    · have : x = ⟨⟨(first + (Rs.offN l i + j : Nat)) % 4294967296, sn.stream % 4, if sn.un then 0 else (Rs.ordN l (sn.stream % 4) i : Int), sn.un, decide (j = 0), decide (j + 1 = sn.parts.length), b⟩, D, cD⟩ := by simpa using hx
                      subst this
                      exact ⟨bin_of_reads hDC, hDl, hbl⟩
                  · intro x hx
                    rcases HTK.out x hx with h | rfl
                    · exact HPB.out x h
                    · exact hb0
            · have hd2 : decide ((j : Int) < sn.parts.length) = false := decide_eq_false (by omega)
              obtain rfl : j = sn.parts.length := by omega
              have hcutall : (Rs.cutOne first (Rs.offN l i) (Rs.ordN l (sn.stream % 4) i) sn).take sn.parts.length = Rs.cutOne first (Rs.offN l i) (Rs.ordN l (sn.stream % 4) i) sn := List.take_of_length_le (by rw [Rs.cutOne_len]; exact Nat.le_refl _)
              have HCA := Lib.hid hcutall
              have hord := ordN_le l (q : Int) i
              have kq : wr.cell? ⟨w.heap.size, q, none⟩ = some (.int .u16 (Rs.ordN l q i)) := (k8 q).trans (ssnA_get l i q hq4)
              have hM2 := own_fr HM.out hF2 (fun k hk hk2 => own_type_no HM.out HO.out (by decide) hk hk2)
              have HM2 := Lib.hid hM2
              have hne812 : w.heap.size ≠ W0.heap.size := by have := hb8.lt; omega
              have one : ∀ u ∈ [Value.int .u16 (q : Int), .bool false, .slice mA mb.length mc], u.oneCell' = true := by
                intro u hu; simp only [List.mem_cons, List.not_mem_nil, or_false] at hu; rcases hu with rfl | rfl | rfl <;> rfl
              have HONE := Lib.hid one
              have haL : (mps.length + 1) * 32 ≤ 140737488355328 := by
                have h1 := congrArg List.length HMP.out
                rw [List.length_map, List.length_map, Rs.cutsN_len] at h1
                omega
              have hbl2 : Fr (fun _ => False) w wr := F2
              have hO12 : (wr).ownsRow w.heap.size 40 3 (.slice B mps.length d) mps.length (mrow mps) := HM2.out
              have HO12 := Lib.hid hO12
              have HF12 := Lib.hid hbl2
              have HS12 := Lib.hid hbl2.size
              have hgx : wr.heap.size = (wr).heap.size := by simp
              have HGX := Lib.hid hgx
              clear hcutall hM2 one hO12 hbl2 hgx
              go_wp2_with (first
                | ((with_reducible refine gate_builtin (b := .append) (xs := #[.tmp 132, .tmp 134]) rfl ?_); at_builtin; go_must (refine app_cells w.heap.size (.tmp 132) (.tmp 134) 54 40 (.agg #[.int .u16 0, .bool false, .slice none 0 0]) 3 32 (.slice B mps.length d) mps.length (mrow mps) [.int .u16 (q : Int), .bool false, .slice mA mb.length mc] ?hW ?hg ?ho Try.underlying54 info_msg rfl (by decide) (by decide) ?hs ?hx HGX.out rfl HONE.out HO12.out HS12.out haL ?_; (case hW => exact rfl); (case hg => rfl); (case ho => rfl); (case hs => rfl); (case hx => rfl)); intro v9 w9 hO9 hG9 hN9; obtain ⟨A9, c9, rfl⟩ := own_slice hO9; have HO9 := Lib.hid hO9; have HG9 := Lib.hid hG9; clear hO9 hG9 hN9))
              go_roundg (l.length - (i + 1))
              case measure => rw [HK.out]; omega
              case rel =>
                have FA : Fr (fun k => k = w.heap.size ∨ (Value.slice B mps.length d).ownBlock = some k) wr w9 := (Fr.refl _ _).grown HG9.out (fun k hk => .inl (.inr hk))
                have hG : Fr (fun k => (Value.slice A dps.length c).ownBlock = some k ∨ k = w.heap.size ∨ (Value.slice B mps.length d).ownBlock = some k) W0 w9 := (hF2.mono (fun _ _ h => .inl h)).then FA (fun k hk => .inl (.inr hk))
                have hb8n : Blk wr w.heap.size 145 (ssnA l (i + 1)) := (by rw [ssnA_un l i (by rw [HSN.out]; exact HUN.out)]; exact hb8')
                have e8 : ∀ k, (Value.slice B mps.length d).ownBlock = some k → k ≠ w.heap.size := own_nblk HM.out hb8 (by decide)
                have h33 := own_fr HO2.out FA (fun k hk hk2 => hk2.elim (fun e => own_nblk HO2.out hb8' (by decide) k hk e) (fun h => own_type_no HO2.out HM2.out (by decide) hk h))
                have hmO9 := own_fr HMO.out FA (fun k hk hk2 => hk2.elim (fun e => own_nblk HMO.out hb8' (by decide) k hk e) (fun h => own_type_no HMO.out HM2.out (by decide) hk h))
                refine ⟨i + 1, dps2, mps ++ [⟨⟨q, false, mb⟩, mA, mc⟩], A2, c2, A9, c9, N2, rfl, by rw [List.length_append]; rfl, rfl, (by go_num), hlt, rfl, HF12.out.grown HG9.out (fun k hk => .inr (own_base HM.out k hk)), h33, ?_, ?_, ?_, ?_, ?_, HDB2.out, ?_, hN2, hdl2⟩
                · rw [List.length_append, mrow_snoc]
                  exact HO9.out
                · exact hb8n.grown HG9.out (fun h => e8 _ h.symm rfl)
                · rw [HDP2.out, HCA.out, Rs.cutsN, HSN.out, List.flatten_append, List.flatten_cons, List.flatten_nil, List.append_nil]
                · rw [List.map_append, HMP.out, Rs.cutsN, HSN.out, List.map_append]
                  congr 1
                  have hne : 0 < (Rs.cutOne first (Rs.offN l i) (Rs.ordN l (sn.stream % 4) i) sn).length := by rw [Rs.cutOne_len]; exact hpl'
                  have hlen2 : dps2.length = Rs.offN l i + sn.parts.length := by
                    have h1 := congrArg List.length HDP2.out
                    rw [List.length_map, List.length_append, Rs.flat_len, List.length_take, Rs.cutOne_len, Nat.min_self] at h1
                    exact h1
                  have hrun := Rs.cutOne_run (first := first) (o := Rs.offN l i) (ssn := Rs.ordN l (sn.stream % 4) i) hpl' (by omega)
                  have h1 := Rs.msg_of hrun (List.getElem_mem hne)
                  rw [Rs.cutOne_get _ _ _ 0 hpl'] at h1
                  have h2 := Rs.msg_bytes (first := first) (Rs.offN l i) (Rs.ordN l (sn.stream % 4) i) sn
                  have h3 : Rs.msgOf (Rs.cutOne first (Rs.offN l i) (Rs.ordN l (sn.stream % 4) i) sn) = ⟨q, false, mb⟩ := by
                    rcases hm : Rs.msgOf (Rs.cutOne first (Rs.offN l i) (Rs.ordN l (sn.stream % 4) i) sn) with ⟨a1, a2, a3⟩
                    rw [hm] at h1 h2
                    have g1 : a1 = q := h1.1.trans HQQ.out
                    have g2 : a2 = false := h1.2.trans (by show (!sn.un) = _; rw [HUN.out]; rfl)
                    have g3 : a3 = mb := h2.trans (by rw [HMB2.out, List.take_length])
                    rw [g1, g2, g3]
                  show [(⟨q, false, mb⟩ : Rs.Ms)] = [Rs.msgOf _]
                  rw [h3]
                · have hlen2 : dps2.length = Rs.offN l i + sn.parts.length := by
                    have h1 := congrArg List.length HDP2.out
                    rw [List.length_map, List.length_append, Rs.flat_len, List.length_take, Rs.cutOne_len, Nat.min_self] at h1
                    exact h1
                  refine ⟨fun a ha => ?_, fun a ha bb hbb => ?_, by rw [Rs.offN, HSN.out]; omega, fun a ha => ?_⟩
                  · rcases Nat.lt_or_ge a i with h | h
                    · exact hg.ne a h
                    · rw [show a = i by omega, HSN.out]; exact hpl'
                  · rcases Nat.lt_or_ge a i with h | h
                    · exact hg.by_ a h bb hbb
                    · rw [show a = i by omega, HSN.out] at hbb
                      exact HPB.out bb (by rw [List.take_length]; exact hbb)
                  · rcases Nat.lt_or_ge a i with h | h
                    · exact hg.strm a h
                    · rw [show a = i by omega, HSN.out]; exact hq0
                · intro x hx
                  rcases List.mem_append.1 hx with hx | hx
                  · obtain ⟨h1, h2⟩ := HMB.out x hx
                    refine ⟨own_fr h1 hG (fun k hk hk2 => ?_), h2⟩
                    rcases hk2 with h | h | h
                    · exact own_type_no h1 HO.out (by decide) hk h
                    · exact own_nblk h1 hb8 (by decide) k hk h
                    · exact own_type_no h1 HM.out (by decide) hk h
                  · have : x = ⟨⟨q, false, mb⟩, mA, mc⟩ := by simpa using hx
                    subst this
                    exact ⟨own_weaken hmO9 hF.size, by show mb.length ≤ 32768; omega⟩
      | false =>
        by_cases hpl : sn.parts.length = 0
        · have bz : ((sn.parts.length : Int) == 0) = true := beq_iff_eq.2 (by omega)
          clear hpl
          go_wp2_with fail
          go_returns
          exact .inl ⟨rfl, (hF.alloc _).trans (by repeat (first | (with_reducible exact Fr.refl _ _) | (with_reducible refine Fr.drewN ?_ _) | (with_reducible refine Fr.drew ?_) | (with_reducible refine Fr.alloc ?_ _)))⟩
        · have bz : ((sn.parts.length : Int) == 0) = false := beq_eq_false_iff_ne.2 (by omega)
          have hpl' : 0 < sn.parts.length := by omega
          clear hpl
          go_wp2_with fail
          rw [HQQ.out]
          obtain ⟨W0, rfl⟩ : ∃ W0, W0 = wr := ⟨wr, rfl⟩
          have hb12 := Blk.new W0 40 #[.int .u16 (q : Int), .bool (!false), .slice none 0 0]
          go_loopg [6, 9, 13] sn.parts.length (fun k v6 v9 v13 w2 => ∃ (j : Nat) (dps2 : List Dp) (A2 : Option Addr) (c2 : Nat) (mA : Option Addr) (mc N2 : Nat) (mb : List Int), v6 = .slice A2 dps2.length c2 ∧ v9 = .int .i64 N2 ∧ v13 = .int .i64 j ∧ j ≤ sn.parts.length ∧ k = sn.parts.length - j ∧
            Fr (fun k => (Value.slice A dps.length c).ownBlock = some k) W0 w2 ∧ w2.ownsRow w.heap.size 33 7 (.slice A2 dps2.length c2) dps2.length (drow dps2) ∧ (∀ k, (Value.slice A2 dps2.length c2).ownBlock = some k → (Value.slice A dps.length c).ownBlock = some k ∨ W0.heap.size ≤ k) ∧
            Blk w2 W0.heap.size 40 #[.int .u16 (q : Int), .bool (!false), .slice mA mb.length mc] ∧ Own w2 W0.heap.size mA mc mb ∧ mb = (sn.parts.take j).flatten ∧
            dps2.map (·.p) = (Rs.cutsN first l i).flatten ++ (Rs.cutOne first (Rs.offN l i) (Rs.ordN l (sn.stream % 4) i) sn).take j ∧ (∀ x ∈ dps2, BIn w x.A x.p.bytes ∧ x.p.bytes.length ≤ x.c ∧ x.p.bytes.length ≤ 32768) ∧ (∀ b ∈ sn.parts.take j, 0 < b.length) ∧ N2 ≤ 32768 ∧ mb.length ≤ N2 ∧ dps2.length ≤ 81)
          case atStart =>
            exact ⟨0, dps, A, c, none, 0, N, [], rfl, rfl, rfl, Nat.zero_le _, rfl, (by repeat (first | (with_reducible exact Fr.refl _ _) | (with_reducible refine Fr.drewN ?_ _) | (with_reducible refine Fr.drew ?_) | (with_reducible refine Fr.alloc ?_ _))), own_fr0 HO.out (by repeat (first | (with_reducible exact Fr.refl _ _) | (with_reducible refine Fr.drewN ?_ _) | (with_reducible refine Fr.drew ?_) | (with_reducible refine Fr.alloc ?_ _))), (fun k h => .inl h), hb12, ⟨by simp [nums], .inl ⟨rfl, rfl⟩⟩, rfl, by rw [HDP.out]; simp, HDB.out, by simp, hN, by simp, hdl⟩
          case round =>
            obtain ⟨j, dps2, A2, c2, mA, mc, N2, mb, rfl, rfl, rfl, hj, hk2, hF2, hO2, hA2, hb12', hmO, hmb2, hdp2, hdb2, hpb, hN2, hmN, hdl2⟩ := hrel
            have HK2 := Lib.hid hk2
            have HO2 := Lib.hid hO2
            have HDP2 := Lib.hid hdp2
            have HDB2 := Lib.hid hdb2
            have HPB := Lib.hid hpb
            have HMO := Lib.hid hmO
            have HMB2 := Lib.hid hmb2
            clear hmb2 hk2 hO2 hdp2 hdb2 hpb hmO E0 E1 E2 b8 b8l b8s hb12
            have F2 : Fr (fun _ => False) w wr := hF.then hF2 (fun k hk => .inr (own_base HO.out k hk))
            have hbel2 : Below w.heap.size w wr := F2.below (Nat.le_refl _) (fun _ h => h.elim)
            have E0 := pw_cell_below hbel2 e0
            have E1 := pw_cell_below hbel2 e1
            have E2 := pw_cell_below hbel2 e2
            have hal2 : (ad.add (i * 3)).block < wr.heap.size := F2.lt_of hadl
            have hals2 : ∀ k, (ad.add (i * 3)).block < wr.heap.size + k := fun k => by omega
            have hb8' := hb8.fr hF2 (fun h => own_nblk HO.out hb8 (by decide) _ h rfl)
            obtain ⟨k8, l8, m8, f8⟩ := hb8'.facts
            obtain ⟨k12, l12, m12, f12⟩ := hb12'.facts
            by_cases hjl : j < sn.parts.length
            · have hd2 : decide ((j : Int) < sn.parts.length) = true := decide_eq_true (by omega)
              obtain ⟨bd, D, cD, rfl, ep, hDl, hDC⟩ := part_at hCp j hjl
              have EP := pw_cell_below hbel2 ep
              have hbz : sn.parts[j].length ≤ 140737488351232 := hqb _ (List.getElem_mem hjl)
              have hfl : (sn.parts.take (j + 1)).flatten = (sn.parts.take j).flatten ++ sn.parts[j] := by rw [List.take_succ_eq_append_getElem hjl, List.flatten_append, List.flatten_cons, List.flatten_nil, List.append_nil]
              have HFL := Lib.hid hfl
              have htk : ∀ x ∈ sn.parts.take (j + 1), x ∈ sn.parts.take j ∨ x = sn.parts[j] := fun x hx => by
                rw [List.take_succ_eq_append_getElem hjl] at hx
                rcases List.mem_append.1 hx with h | h
                · exact .inl h
                · exact .inr (by simpa using h)
              have HTK := Lib.hid htk
              have hcut : (Rs.cutOne first (Rs.offN l i) (Rs.ordN l (sn.stream % 4) i) sn).take (j + 1) = (Rs.cutOne first (Rs.offN l i) (Rs.ordN l (sn.stream % 4) i) sn).take j ++ [⟨(first + (Rs.offN l i + j : Nat)) % 4294967296, sn.stream % 4, if sn.un then 0 else (Rs.ordN l (sn.stream % 4) i : Int), sn.un, decide (j = 0), decide (j + 1 = sn.parts.length), sn.parts[j]⟩] := by
                have hl' : j < (Rs.cutOne first (Rs.offN l i) (Rs.ordN l (sn.stream % 4) i) sn).length := by rw [Rs.cutOne_len]; exact hjl
                rw [List.take_succ_eq_append_getElem hl', Rs.cutOne_get _ _ _ j hjl]
              have HCUT := Lib.hid hcut
              clear hfl htk hcut ep
              generalize sn.parts[j] = b at *
              by_cases hbad : b.length = 0 ∨ 32768 < N2 + b.length ∨ 80 < dps2.length
              · by_cases hb1 : b.length = 0
                · have bz1 : ((b.length : Int) == 0) = true := beq_iff_eq.2 (by omega)
                  clear hbad hb1
                  go_wp2_with fail
                  go_returns
                  exact .inl ⟨rfl, F2.trans (by repeat (first | (with_reducible exact Fr.refl _ _) | (with_reducible refine Fr.drewN ?_ _) | (with_reducible refine Fr.drew ?_) | (with_reducible refine Fr.alloc ?_ _)))⟩
                · have bz1 : ((b.length : Int) == 0) = false := beq_eq_false_iff_ne.2 (by omega)
                  by_cases hb2 : 32768 < N2 + b.length
                  · have bz2 : decide (32768 < (N2 : Int) + b.length) = true := decide_eq_true (by omega)
                    clear hbad hb1 hb2
                    go_wp2_with fail
                    go_returns
                    exact .inl ⟨rfl, F2.trans (by repeat (first | (with_reducible exact Fr.refl _ _) | (with_reducible refine Fr.drewN ?_ _) | (with_reducible refine Fr.drew ?_) | (with_reducible refine Fr.alloc ?_ _)))⟩
                  · have bz2 : decide (32768 < (N2 : Int) + b.length) = false := decide_eq_false (by omega)
                    have bz3 : decide (80 < (dps2.length : Int)) = true := decide_eq_true (by omega)
                    clear hbad hb1 hb2
                    go_wp2_with fail
                    go_returns
                    exact .inl ⟨rfl, F2.trans (by repeat (first | (with_reducible exact Fr.refl _ _) | (with_reducible refine Fr.drewN ?_ _) | (with_reducible refine Fr.drew ?_) | (with_reducible refine Fr.alloc ?_ _)))⟩
              · have bz1 : ((b.length : Int) == 0) = false := beq_eq_false_iff_ne.2 (by omega)
                have bz2 : decide (32768 < (N2 : Int) + b.length) = false := decide_eq_false (by omega)
                have bz3 : decide (80 < (dps2.length : Int)) = false := decide_eq_false (by omega)
                have hbl : b.length ≤ 32768 := by omega
                have hdl3 : dps2.length ≤ 80 := by omega
                have hb0 : 0 < b.length := by omega
                have hN3 : N2 + b.length ≤ 32768 := by omega
                clear hbad
                go_wp2_with fail
                have s1 : IntKind.i64.wrap ((sn.parts.length : Int) - 1) = (sn.parts.length : Int) - 1 := IntWalk.i64_in _ (by have := hCp.2.1; omega)
                have s2 : IntKind.u32.wrap (dps2.length : Int) = (dps2.length : Int) := by rw [wrap_u32]; omega
                have s3 : IntKind.u32.wrap (first + (dps2.length : Int)) = (first + (dps2.length : Int)) % 4294967296 := wrap_u32 _
                have s4 : ((j : Int) == 0) = decide (j = 0) := by rw [Bool.eq_iff_iff]; simp
                have s5 : ((j : Int) == (sn.parts.length : Int) - 1) = decide (j + 1 = sn.parts.length) := by rw [Bool.eq_iff_iff, beq_iff_eq, decide_eq_true_eq]; omega
                go_region_held3 (fun w' => w'.cell? ⟨(ad.add (i * 3)).block, (ad.add (i * 3)).off + 1, none⟩ = some (.bool false) ∧ w'.cell? ⟨(ad.add (i * 3)).block, (ad.add (i * 3)).off + 2, none⟩ = some (.slice (some bd) sn.parts.length cp)) (go_keep) (fail)
                clear s1 s2 s3 s4 s5
                have hlen : dps2.length = Rs.offN l i + j := by
                  have h1 := congrArg List.length HDP2.out
                  rw [List.length_map, List.length_append, Rs.flat_len, List.length_take, Rs.cutOne_len, Nat.min_eq_left hj] at h1
                  exact h1
                have hj80 : j ≤ 80 := by omega
                have hjc : (((j + 1 : Nat) : Int)) = (j : Int) + 1 := by omega
                have HJC := Lib.hid hjc
                have HLEN := Lib.hid hlen
                clear hlen hjc
                have hO15 : ((wr.alloc (.cells #[.int .u32 ((first + (dps2.length : Int)) % 4294967296), .int .u16 (q : Int), .int .u16 (Rs.ordN l q i), .bool false, .bool (decide (j = 0)), .bool (decide (j + 1 = sn.parts.length)), .slice D b.length cD] 33)).drew).ownsRow w.heap.size 33 7 (.slice A2 dps2.length c2) dps2.length (drow dps2) := own_fr0 HO2.out (by repeat (first | (with_reducible exact Fr.refl _ _) | (with_reducible refine Fr.drewN ?_ _) | (with_reducible refine Fr.drew ?_) | (with_reducible refine Fr.alloc ?_ _)))
                have F15 : Fr (fun _ => False) wr ((wr.alloc (.cells #[.int .u32 ((first + (dps2.length : Int)) % 4294967296), .int .u16 (q : Int), .int .u16 (Rs.ordN l q i), .bool false, .bool (decide (j = 0)), .bool (decide (j + 1 = sn.parts.length)), .slice D b.length cD] 33)).drew) := (by repeat (first | (with_reducible exact Fr.refl _ _) | (with_reducible refine Fr.drewN ?_ _) | (with_reducible refine Fr.drew ?_) | (with_reducible refine Fr.alloc ?_ _)))
                have kq : wr.cell? ⟨w.heap.size, q, none⟩ = some (.int .u16 (Rs.ordN l q i)) := (k8 q).trans (ssnA_get l i q hq4)
                replace k8 := kq
                have hq4i : (q : Int) < 4 := by omega
                clear kq
                have HO5 := Lib.hid hO15
                have HF5w := Lib.hid F15
                have HF5 := Lib.hid (F2.trans F15)
                have HS5 := Lib.hid (F2.trans F15).size
                clear hO15 F15
                have one : ∀ u ∈ [Value.int .u32 ((first + (dps2.length : Int)) % 4294967296), .int .u16 (q : Int), .int .u16 (Rs.ordN l q i), .bool false, .bool (decide (j = 0)), .bool (decide (j + 1 = sn.parts.length)), .slice D b.length cD], u.oneCell' = true := by
                  intro u hu; simp only [List.mem_cons, List.not_mem_nil, or_false] at hu; rcases hu with rfl | rfl | rfl | rfl | rfl | rfl | rfl <;> rfl
                have hgx : wr.heap.size + 1 = ((wr.alloc (.cells #[.int .u32 ((first + (dps2.length : Int)) % 4294967296), .int .u16 (q : Int), .int .u16 (Rs.ordN l q i), .bool false, .bool (decide (j = 0)), .bool (decide (j + 1 = sn.parts.length)), .slice D b.length cD] 33)).drew).heap.size := by simp
                have HONE := Lib.hid one
                have HGX := Lib.hid hgx
                have haL : (dps2.length + 1) * 40 ≤ 140737488355328 := by omega
                clear one hgx
                go_wp2_with (first
                  | ((with_reducible refine gate_builtin (b := .append) (xs := #[.tmp 112, .tmp 114]) rfl ?_); at_builtin; (refine app_cells (W := (wr.alloc (.cells #[.int .u32 ((first + (dps2.length : Int)) % 4294967296), .int .u16 (q : Int), .int .u16 (Rs.ordN l q i), .bool false, .bool (decide (j = 0)), .bool (decide (j + 1 = sn.parts.length)), .slice D b.length cD] 33)).drew) w.heap.size (.tmp 112) (.tmp 114) 53 33 (.agg #[.int .u32 0, .int .u16 0, .int .u16 0, .bool false, .bool false, .bool false, .slice none 0 0]) 7 40 (.slice A2 dps2.length c2) dps2.length (drow dps2) [.int .u32 ((first + (dps2.length : Int)) % 4294967296), .int .u16 (q : Int), .int .u16 (Rs.ordN l q i), .bool false, .bool (decide (j = 0)), .bool (decide (j + 1 = sn.parts.length)), .slice D b.length cD] ?hW ?hg ?ho Try.underlying53 info_data rfl (by decide) (by decide) ?hs ?hx HGX.out rfl HONE.out HO5.out HS5.out haL ?_; (case hW => exact rfl); (case hg => rfl); (case ho => rfl); (case hs => rfl); (case hx => rfl)); intro v6 w6 hO6 hG6 hN6; obtain ⟨A6, c6, rfl⟩ := own_slice hO6; have F6 := (HF5.out.then (grown_fr hG6) (fun k hk => .inr (own_base HO5.out k hk))); have hb12b := (hb12'.fr HF5w.out (fun h => h)).fr (grown_fr hG6) (fun h => own_nblk HO5.out (hb12'.fr HF5w.out (fun h => h)) (by decide) _ h rfl); clear k12 l12 m12 f12 k8 l8 m8 f8; obtain ⟨k12, l12, m12, f12⟩ := hb12b.facts; have HO6 := Lib.hid hO6; have HG6 := Lib.hid hG6; have HN6 := Lib.hid hN6; have HF6 := Lib.hid F6; have HB12 := Lib.hid hb12b; clear hO6 hG6 hN6 F6 hb12b)
                  | ((with_reducible refine gate_builtin (b := .append) (xs := #[.tmp 117, .tmp 118]) rfl ?_); at_builtin; go_must (refine print_append_row (w0 := w6) W0.heap.size rfl (.tmp 117) (.tmp 118) 31 5 .u8 1 rfl Try.underlying31 info5 (by decide) (.slice mA mb.length mc) mb b D b.length cD rfl rfl ?bO ?bR ?bB ?bS ?bL ?_; (case bO => exact own_fr (own_fr0 HMO.out HF5w.out) (grown_fr HG6.out) (fun k hk hk2 => own_type_no (own_fr0 HMO.out HF5w.out) HO5.out (by decide) hk hk2)); (case bR => exact reads_of_bin ((bin_of_reads hDC).fr0 HF6.out) (by omega)); (case bB => exact Below.refl _ _); (case bS => exact Nat.le_of_lt l12); (case bL => omega)); intro v7 w7 hO7 hB7 hG7 hN7; obtain ⟨mA7, mc7, rfl⟩ := own_slice hO7; have HO7 := Lib.hid hO7; have HG7 := Lib.hid hG7; have HB7 := Lib.hid (HB12.out.fr (grown_fr hG7) (fun h => own_nblk (own_fr (own_fr0 HMO.out HF5w.out) (grown_fr HG6.out) (fun k hk hk2 => own_type_no (own_fr0 HMO.out HF5w.out) HO5.out (by decide) hk hk2)) HB12.out (by decide) _ h rfl)); obtain ⟨j12, n12, o12, p12⟩ := HB7.out.facts; clear hO7 hB7 hG7 hN7 k12 l12 m12 f12))
                go_roundg (sn.parts.length - (j + 1))
                case measure => rw [HK2.out]; omega
                case rel =>
                  have hmO5 := own_fr0 HMO.out HF5w.out
                  have hmO6 := own_fr hmO5 (grown_fr HG6.out) (fun k hk hk2 => own_type_no hmO5 HO5.out (by decide) hk hk2)
                  have hG : Fr (fun k => (Value.slice A dps.length c).ownBlock = some k) W0 w7 := (((hF2.then HF5w.out (fun k hk => hk.elim)).then (grown_fr HG6.out) (fun k hk => hA2 k hk)).then (grown_fr HG7.out) (fun k hk => .inr (own_base HMO.out k hk)))
                  have hO7d := own_fr HO6.out (grown_fr HG7.out) (fun k hk hk2 => own_type_no HO6.out hmO6 (by decide) hk hk2)
                  refine ⟨j + 1, dps2 ++ [⟨⟨(first + (Rs.offN l i + j : Nat)) % 4294967296, sn.stream % 4, if sn.un then 0 else (Rs.ordN l (sn.stream % 4) i : Int), sn.un, decide (j = 0), decide (j + 1 = sn.parts.length), b⟩, D, cD⟩], A6, c6, mA7, mc7, N2 + b.length, mb ++ b, by rw [List.length_append]; rfl, rfl, by rw [HJC.out], hjl, rfl, hG.setAt (.inr (Nat.le_refl _)), ?_, ?_, ?_, ?_, by rw [HFL.out, HMB2.out], ?_, ?_, ?_, hN3, by rw [List.length_append]; omega, by rw [List.length_append]; show dps2.length + 1 ≤ 81; omega⟩
                  · rw [List.length_append, drow_snoc]
                    have e : (dcells ⟨(first + (Rs.offN l i + j : Nat)) % 4294967296, sn.stream % 4, if sn.un then 0 else (Rs.ordN l (sn.stream % 4) i : Int), sn.un, decide (j = 0), decide (j + 1 = sn.parts.length), b⟩ D cD).toList = [.int .u32 ((first + (dps2.length : Int)) % 4294967296), .int .u16 (q : Int), .int .u16 (Rs.ordN l q i : Int), .bool false, .bool (decide (j = 0)), .bool (decide (j + 1 = sn.parts.length)), .slice D b.length cD] := by
                      simp only [dcells, HUN.out, HQQ.out, HLEN.out]
                      rfl
                    rw [e]
                    exact own_fr (S := (· = W0.heap.size)) hO7d (Fr.refl _ _).setOne (own_nblk hO7d HB7.out (by decide))
                  · intro k hk
                    rw [List.length_append] at hk
                    rcases HN6.out with h | ⟨bb, h, hb⟩
                    · exact hA2 k (h.symm.trans hk)
                    · have : bb = k := by rw [show ([(⟨⟨(first + (Rs.offN l i + j : Nat)) % 4294967296, sn.stream % 4, if sn.un then 0 else (Rs.ordN l (sn.stream % 4) i : Int), sn.un, decide (j = 0), decide (j + 1 = sn.parts.length), b⟩, D, cD⟩ : Dp)]).length = 1 from rfl] at hk; exact Option.some.inj (h.symm.trans hk)
                      subst this
                      exact .inr (Nat.le_trans (Nat.le_trans hF2.size HF5w.out.size) hb)
                  · rw [List.length_append]
                    exact HB7.out.set 2 _
                  · have h1 : Own w7 W0.heap.size mA7 mc7 (mb ++ b) := HO7.out
                    exact own_fr (S := (· = W0.heap.size)) h1 (Fr.refl _ _).setOne (own_nblk h1 HB7.out (by decide))
                  · rw [List.map_append, HDP2.out, HCUT.out, List.append_assoc]
                    rfl
                  · intro x hx
                    rcases List.mem_append.1 hx with hx | hx
                    · exact HDB2.out x hx
                    · have : x = ⟨⟨(first + (Rs.offN l i + j : Nat)) % 4294967296, sn.stream % 4, if sn.un then 0 else (Rs.ordN l (sn.stream % 4) i : Int), sn.un, decide (j = 0), decide (j + 1 = sn.parts.length), b⟩, D, cD⟩ := by simpa using hx
                      subst this
                      exact ⟨bin_of_reads hDC, hDl, hbl⟩
                  · intro x hx
                    rcases HTK.out x hx with h | rfl
                    · exact HPB.out x h
                    · exact hb0
            · have hd2 : decide ((j : Int) < sn.parts.length) = false := decide_eq_false (by omega)
              obtain rfl : j = sn.parts.length := by omega
              have hcutall : (Rs.cutOne first (Rs.offN l i) (Rs.ordN l (sn.stream % 4) i) sn).take sn.parts.length = Rs.cutOne first (Rs.offN l i) (Rs.ordN l (sn.stream % 4) i) sn := List.take_of_length_le (by rw [Rs.cutOne_len]; exact Nat.le_refl _)
              have HCA := Lib.hid hcutall
              have hord := ordN_le l (q : Int) i
              have kq : wr.cell? ⟨w.heap.size, q, none⟩ = some (.int .u16 (Rs.ordN l q i)) := (k8 q).trans (ssnA_get l i q hq4)
              replace k8 := kq
              have hq4i : (q : Int) < 4 := by omega
              clear kq
              have hM2 := own_fr HM.out hF2 (fun k hk hk2 => own_type_no HM.out HO.out (by decide) hk hk2)
              have HM2 := Lib.hid hM2
              have hne812 : w.heap.size ≠ W0.heap.size := by have := hb8.lt; omega
              have one : ∀ u ∈ [Value.int .u16 (q : Int), .bool true, .slice mA mb.length mc], u.oneCell' = true := by
                intro u hu; simp only [List.mem_cons, List.not_mem_nil, or_false] at hu; rcases hu with rfl | rfl | rfl <;> rfl
              have HONE := Lib.hid one
              have haL : (mps.length + 1) * 32 ≤ 140737488355328 := by
                have h1 := congrArg List.length HMP.out
                rw [List.length_map, List.length_map, Rs.cutsN_len] at h1
                omega
              have hbl2 : Fr (fun _ => False) w (wr.setCell ⟨w.heap.size, q, none⟩ (.int .u16 ((Rs.ordN l q i : Int) + 1))) := (F2.setAt (.inr (Nat.le_refl _)))
              have hO12 : ((wr.setCell ⟨w.heap.size, q, none⟩ (.int .u16 ((Rs.ordN l q i : Int) + 1)))).ownsRow w.heap.size 40 3 (.slice B mps.length d) mps.length (mrow mps) := (own_fr (S := (· = w.heap.size)) HM2.out (Fr.refl _ _).setOne (own_nblk HM2.out hb8' (by decide)))
              have HO12 := Lib.hid hO12
              have HF12 := Lib.hid hbl2
              have HS12 := Lib.hid hbl2.size
              have hgx : wr.heap.size = ((wr.setCell ⟨w.heap.size, q, none⟩ (.int .u16 ((Rs.ordN l q i : Int) + 1)))).heap.size := by simp
              have HGX := Lib.hid hgx
              clear hcutall hM2 one hO12 hbl2 hgx
              go_wp2_with (first
                | ((with_reducible refine gate_builtin (b := .append) (xs := #[.tmp 132, .tmp 134]) rfl ?_); at_builtin; go_must (refine app_cells w.heap.size (.tmp 132) (.tmp 134) 54 40 (.agg #[.int .u16 0, .bool false, .slice none 0 0]) 3 32 (.slice B mps.length d) mps.length (mrow mps) [.int .u16 (q : Int), .bool true, .slice mA mb.length mc] ?hW ?hg ?ho Try.underlying54 info_msg rfl (by decide) (by decide) ?hs ?hx HGX.out rfl HONE.out HO12.out HS12.out haL ?_; (case hW => exact rfl); (case hg => rfl); (case ho => rfl); (case hs => rfl); (case hx => rfl)); intro v9 w9 hO9 hG9 hN9; obtain ⟨A9, c9, rfl⟩ := own_slice hO9; have HO9 := Lib.hid hO9; have HG9 := Lib.hid hG9; clear hO9 hG9 hN9))
              go_roundg (l.length - (i + 1))
              case measure => rw [HK.out]; omega
              case rel =>
                have FA : Fr (fun k => k = w.heap.size ∨ (Value.slice B mps.length d).ownBlock = some k) wr w9 := ((Fr.refl _ _).setAt (.inl (.inl rfl))).grown HG9.out (fun k hk => .inl (.inr hk))
                have hG : Fr (fun k => (Value.slice A dps.length c).ownBlock = some k ∨ k = w.heap.size ∨ (Value.slice B mps.length d).ownBlock = some k) W0 w9 := (hF2.mono (fun _ _ h => .inl h)).then FA (fun k hk => .inl (.inr hk))
                have hb8n : Blk (wr.setCell ⟨w.heap.size, q, none⟩ (.int .u16 ((Rs.ordN l q i : Int) + 1))) w.heap.size 145 (ssnA l (i + 1)) := (by have := hb8'.set q (.int .u16 ((Rs.ordN l q i : Int) + 1)); rw [ssnA_ord l i q hq4 (by rw [HSN.out]; exact HUN.out) (by rw [HSN.out]; exact HQQ.out)] at this; exact this)
                have e8 : ∀ k, (Value.slice B mps.length d).ownBlock = some k → k ≠ w.heap.size := own_nblk HM.out hb8 (by decide)
                have h33 := own_fr HO2.out FA (fun k hk hk2 => hk2.elim (fun e => own_nblk HO2.out hb8' (by decide) k hk e) (fun h => own_type_no HO2.out HM2.out (by decide) hk h))
                have hmO9 := own_fr HMO.out FA (fun k hk hk2 => hk2.elim (fun e => own_nblk HMO.out hb8' (by decide) k hk e) (fun h => own_type_no HMO.out HM2.out (by decide) hk h))
                refine ⟨i + 1, dps2, mps ++ [⟨⟨q, true, mb⟩, mA, mc⟩], A2, c2, A9, c9, N2, rfl, by rw [List.length_append]; rfl, rfl, (by go_num), hlt, rfl, HF12.out.grown HG9.out (fun k hk => .inr (own_base HM.out k hk)), h33, ?_, ?_, ?_, ?_, ?_, HDB2.out, ?_, hN2, hdl2⟩
                · rw [List.length_append, mrow_snoc]
                  exact HO9.out
                · exact hb8n.grown HG9.out (fun h => e8 _ h.symm rfl)
                · rw [HDP2.out, HCA.out, Rs.cutsN, HSN.out, List.flatten_append, List.flatten_cons, List.flatten_nil, List.append_nil]
                · rw [List.map_append, HMP.out, Rs.cutsN, HSN.out, List.map_append]
                  congr 1
                  have hne : 0 < (Rs.cutOne first (Rs.offN l i) (Rs.ordN l (sn.stream % 4) i) sn).length := by rw [Rs.cutOne_len]; exact hpl'
                  have hlen2 : dps2.length = Rs.offN l i + sn.parts.length := by
                    have h1 := congrArg List.length HDP2.out
                    rw [List.length_map, List.length_append, Rs.flat_len, List.length_take, Rs.cutOne_len, Nat.min_self] at h1
                    exact h1
                  have hrun := Rs.cutOne_run (first := first) (o := Rs.offN l i) (ssn := Rs.ordN l (sn.stream % 4) i) hpl' (by omega)
                  have h1 := Rs.msg_of hrun (List.getElem_mem hne)
                  rw [Rs.cutOne_get _ _ _ 0 hpl'] at h1
                  have h2 := Rs.msg_bytes (first := first) (Rs.offN l i) (Rs.ordN l (sn.stream % 4) i) sn
                  have h3 : Rs.msgOf (Rs.cutOne first (Rs.offN l i) (Rs.ordN l (sn.stream % 4) i) sn) = ⟨q, true, mb⟩ := by
                    rcases hm : Rs.msgOf (Rs.cutOne first (Rs.offN l i) (Rs.ordN l (sn.stream % 4) i) sn) with ⟨a1, a2, a3⟩
                    rw [hm] at h1 h2
                    have g1 : a1 = q := h1.1.trans HQQ.out
                    have g2 : a2 = true := h1.2.trans (by show (!sn.un) = _; rw [HUN.out]; rfl)
                    have g3 : a3 = mb := h2.trans (by rw [HMB2.out, List.take_length])
                    rw [g1, g2, g3]
                  show [(⟨q, true, mb⟩ : Rs.Ms)] = [Rs.msgOf _]
                  rw [h3]
                · have hlen2 : dps2.length = Rs.offN l i + sn.parts.length := by
                    have h1 := congrArg List.length HDP2.out
                    rw [List.length_map, List.length_append, Rs.flat_len, List.length_take, Rs.cutOne_len, Nat.min_self] at h1
                    exact h1
                  refine ⟨fun a ha => ?_, fun a ha bb hbb => ?_, by rw [Rs.offN, HSN.out]; omega, fun a ha => ?_⟩
                  · rcases Nat.lt_or_ge a i with h | h
                    · exact hg.ne a h
                    · rw [show a = i by omega, HSN.out]; exact hpl'
                  · rcases Nat.lt_or_ge a i with h | h
                    · exact hg.by_ a h bb hbb
                    · rw [show a = i by omega, HSN.out] at hbb
                      exact HPB.out bb (by rw [List.take_length]; exact hbb)
                  · rcases Nat.lt_or_ge a i with h | h
                    · exact hg.strm a h
                    · rw [show a = i by omega, HSN.out]; exact hq0
                · intro x hx
                  rcases List.mem_append.1 hx with hx | hx
                  · obtain ⟨h1, h2⟩ := HMB.out x hx
                    refine ⟨own_fr h1 hG (fun k hk hk2 => ?_), h2⟩
                    rcases hk2 with h | h | h
                    · exact own_type_no h1 HO.out (by decide) hk h
                    · exact own_nblk h1 hb8 (by decide) k hk h
                    · exact own_type_no h1 HM.out (by decide) hk h
                  · have : x = ⟨⟨q, true, mb⟩, mA, mc⟩ := by simpa using hx
                    subst this
                    exact ⟨own_weaken hmO9 hF.size, by show mb.length ≤ 32768; omega⟩
    · have hd1 : decide ((i : Int) < l.length) = false := decide_eq_false (by omega)
      obtain rfl : i = l.length := by omega
      go_wp2_with fail
      go_returns
      refine .inr ⟨A, c, B, d, dps, mps, rfl, hF.trans (by repeat (first | (with_reducible exact Fr.refl _ _) | (with_reducible refine Fr.drewN ?_ _) | (with_reducible refine Fr.drew ?_) | (with_reducible refine Fr.alloc ?_ _))), own_fr0 HO.out (by repeat (first | (with_reducible exact Fr.refl _ _) | (with_reducible refine Fr.drewN ?_ _) | (with_reducible refine Fr.drew ?_) | (with_reducible refine Fr.alloc ?_ _))), own_fr0 HM.out (by repeat (first | (with_reducible exact Fr.refl _ _) | (with_reducible refine Fr.drewN ?_ _) | (with_reducible refine Fr.drew ?_) | (with_reducible refine Fr.alloc ?_ _))), HDP.out, HMP.out, hg, fun x hx => ?_, fun x hx => ?_⟩
      · obtain ⟨h1, h2⟩ := HDB.out x hx
        exact ⟨h1.fr0 (hF.trans (by repeat (first | (with_reducible exact Fr.refl _ _) | (with_reducible refine Fr.drewN ?_ _) | (with_reducible refine Fr.drew ?_) | (with_reducible refine Fr.alloc ?_ _)))), h2⟩
      · obtain ⟨h1, h2⟩ := HMB.out x hx
        refine ⟨h1.bin.fr0 (by repeat (first | (with_reducible exact Fr.refl _ _) | (with_reducible refine Fr.drewN ?_ _) | (with_reducible refine Fr.drew ?_) | (with_reducible refine Fr.alloc ?_ _))), ?_, h2⟩
        rcases h1.blk with ⟨_, h3, h4⟩ | ⟨_, _, _, _, _, _, h3, _⟩
        · rw [h3, h4]; exact Nat.le_refl _
        · exact h3
end Go.Proofs.Ytpkbckkminmdmaa
