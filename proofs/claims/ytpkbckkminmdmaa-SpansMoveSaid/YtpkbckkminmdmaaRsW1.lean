/- Contracts: serial.Ahead, serial.Less, reasm.mates, (*Reasm).whole. -/
import Derived.Test.YtpkbckkminmdmaaProg
import Derived.Test.YtpkbckkminmdmaaBase
import Derived.Test.YtpkbckkminmdmaaRsPure4
import Derived.WalkSpells
import Derived.Deep.QuietTactic
import Derived.BigQuiet
import Derived.Deep.LoopGhost
import Derived.Deep.DeepFit
namespace Go.Proofs.Ytpkbckkminmdmaa
open Go.RowKit
attribute [local go_sem] alloc_drewN setCell_drewN isMap_alloc isMap_drew isMap_drewN isMap_setCell

theorem ret_bool {a b : Bool} (h : a = b) : Ending.returned (.bool a) = .returned (.bool b) := by rw [h]
theorem ret_int {k : IntKind} {a b : Int} (h : a = b) : Ending.returned (.int k a) = .returned (.int k b) := by rw [h]

theorem quiet_add_same {P : Program} {f : FuncId} {args : Array Value} {w : World} {a n : Nat} {v : Value}
    (h : Calls P f args (w.drewN (a + n)) fun e w' => e = .returned v ∧ w.drewN (a + n) = w') : Calls P f args (w.drewN (a + n)) fun e w'' => e = .returned v ∧ ∃ m, w'' = w.drewN (a + m) :=
  h.mono fun _ _ ⟨he, hm⟩ => ⟨he, n, hm.symm⟩
theorem quiet_same {P : Program} {f : FuncId} {args : Array Value} {w : World} {n : Nat} {v : Value}
    (h : Calls P f args (w.drewN n) fun e w' => e = .returned v ∧ w.drewN n = w') : Calls P f args (w.drewN n) fun e w'' => e = .returned v ∧ ∃ m, w'' = w.drewN m :=
  h.mono fun _ _ ⟨he, hm⟩ => ⟨he, n, hm.symm⟩
theorem ahead16_any (a b : Int) (w : World) : Calls Try.prog 139 #[.int .u16 a, .int .u16 b] w fun e w' => e = .returned (.int .u16 ((b - a) % 65536)) ∧ w = w' := by
  go_enter Try.func139, Try.ntmps139
  go_wp2
  go_ret
  exact ⟨rfl, rfl⟩
theorem ahead32_any (a b : Int) (w : World) : Calls Try.prog 111 #[.int .u32 a, .int .u32 b] w fun e w' => e = .returned (.int .u32 ((b - a) % 4294967296)) ∧ w = w' := by
  go_enter Try.func111, Try.ntmps111
  go_wp2
  go_ret
  exact ⟨rfl, rfl⟩
theorem not16 : bits BinOp.xor IntKind.u16 IntKind.u16.max 0 = 65535 := by decide +kernel
theorem not32 : bits BinOp.xor IntKind.u32 IntKind.u32.max 0 = 4294967295 := by decide +kernel
theorem less16_any (a b : Int) (w : World) : Calls Try.prog 102 #[.int .u16 a, .int .u16 b] w fun e w' => e = .returned (.bool (Rs.less16 a b)) ∧ w = w' := by
  obtain ⟨x, hx⟩ : ∃ x, x = (b - a) % 65536 := ⟨_, rfl⟩
  have hR : Rs.less16 a b = (decide (1 ≤ x) && decide (x < 32768)) := by rw [hx]; rfl
  have h0 : 0 ≤ x := by omega
  have H := Lib.hid hR
  have HX := Lib.hid hx
  clear hR hx
  have hs : IntKind.u16.signed = false := rfl
  by_cases hp : 0 < x
  all_goals
    go_enter Try.func102, Try.ntmps102
    go_wp2_with (go_at_call 139; refine (ahead16_any _ _ _).mono ?_; rintro e w' ⟨rfl, rfl⟩; rw [← HX.out])
    go_ret
    refine ⟨ret_bool ?_, rfl⟩
    rw [H.out]
    clear H HX
  · show decide (x ≤ bits BinOp.xor IntKind.u16 IntKind.u16.max 0 / 2) = _
    rw [not16]
    have h1 : decide (1 ≤ x) = true := decide_eq_true (by omega)
    rw [h1, Bool.true_and]
    exact decide_eq_decide.2 (by omega)
  · show false = _
    have h1 : decide (1 ≤ x) = false := by simp; omega
    rw [h1, Bool.false_and]
theorem less32_any (a b : Int) (w : World) : Calls Try.prog 125 #[.int .u32 a, .int .u32 b] w fun e w' => e = .returned (.bool (Rs.less32 a b)) ∧ w = w' := by
  obtain ⟨x, hx⟩ : ∃ x, x = (b - a) % 4294967296 := ⟨_, rfl⟩
  have hR : Rs.less32 a b = (decide (1 ≤ x) && decide (x < 2147483648)) := by rw [hx]; rfl
  have h0 : 0 ≤ x := by omega
  have H := Lib.hid hR
  have HX := Lib.hid hx
  clear hR hx
  have hs : IntKind.u32.signed = false := rfl
  by_cases hp : 0 < x
  all_goals
    go_enter Try.func125, Try.ntmps125
    go_wp2_with (go_at_call 111; refine (ahead32_any _ _ _).mono ?_; rintro e w' ⟨rfl, rfl⟩; rw [← HX.out])
    go_ret
    refine ⟨ret_bool ?_, rfl⟩
    rw [H.out]
    clear H HX
  · show decide (x ≤ bits BinOp.xor IntKind.u32 IntKind.u32.max 0 / 2) = _
    rw [not32]
    have h1 : decide (1 ≤ x) = true := decide_eq_true (by omega)
    rw [h1, Bool.true_and]
    exact decide_eq_decide.2 (by omega)
  · show false = _
    have h1 : decide (1 ≤ x) = false := by simp; omega
    rw [h1, Bool.false_and]

/-- A piece as the map holds it: its bytes' slice, the how-many-eth it came, its entry's stamp. -/
structure Pe where
  p : Rs.Pc
  blk : Nat
  cap : Nat
  turn : Int
  born : Nat
def Pe.v (e : Pe) : Value := .slice (some ⟨e.blk, 0, none⟩) e.p.bytes.length e.cap
def pcells (e : Pe) : Array Value := #[.int .u32 e.p.tsn, .int .u16 e.p.stream, .int .u16 e.p.ssn, .bool e.p.un, .bool e.p.fi, .bool e.p.la, .slice (some ⟨e.blk, 0, none⟩) e.p.bytes.length e.cap, .int .i64 e.turn]
def Pe.en (e : Pe) : En := ⟨e.p.tsn, .agg (pcells e), e.born⟩
theorem mates_any (a b : Pe) (w : World) : Calls Try.prog 141 #[.agg (pcells a), .agg (pcells b)] w fun e w' => e = .returned (.bool (Rs.mates a.p b.p)) ∧ Fr (fun _ => False) w w' := by
  obtain ⟨⟨a0, a1, a2, a3, a4, a5, a8⟩, a6, a9, a7, _⟩ := a
  obtain ⟨⟨b0, b1, b2, b3, b4, b5, b8⟩, b6, b9, b7, _⟩ := b
  have hR : Rs.mates ⟨a0, a1, a2, a3, a4, a5, a8⟩ ⟨b0, b1, b2, b3, b4, b5, b8⟩ = (a1 == b1 && a2 == b2 && a3 == b3) := rfl
  have H := Lib.hid hR
  clear hR
  unfold pcells
  dsimp only
  by_cases h1 : (a1 == b1) = true
  · by_cases h2 : (a2 == b2) = true
    · go_enter Try.func141, Try.ntmps141
      go_wp2
      go_ret
      exact ⟨ret_bool (by rw [H.out, h1, h2]; rfl), ((Fr.refl _ _).alloc _).alloc _⟩
    · have h2 : (a2 == b2) = false := by simpa using h2
      go_enter Try.func141, Try.ntmps141
      go_wp2
      go_ret
      exact ⟨ret_bool (by rw [H.out, h1, h2]; rfl), ((Fr.refl _ _).alloc _).alloc _⟩
  · have h1 : (a1 == b1) = false := by simpa using h1
    go_enter Try.func141, Try.ntmps141
    go_wp2
    go_ret
    exact ⟨ret_bool (by rw [H.out, h1]; rfl), ((Fr.refl _ _).alloc _).alloc _⟩

/-- What the map says of a key. -/
theorem find_en (L : List Pe) (t : Int) : (L.map Pe.en).find? (fun x => x.key == t) = (L.find? fun e => e.p.tsn == t).map Pe.en := by
  rw [List.find?_map]
  rfl
theorem find_pc (L : List Pe) (t : Int) : Rs.get (L.map (·.p)) t = (L.find? fun e => e.p.tsn == t).map (·.p) := by
  unfold Rs.get
  rw [List.find?_map]
  rfl
def zpiece : Value := .agg #[.int .u32 0, .int .u16 0, .int .u16 0, .bool false, .bool false, .bool false, .slice none 0 0, .int .i64 0]
theorem zero151 (W : World) : (zeroValue 151).run Try.prog W = .ok zpiece W := by kernel_rfl
/-- The two ways of a look-up. -/
theorem look_cases (mb clk : Nat) (L : List Pe) (t : Int) :
    (Rs.get (L.map (·.p)) t = none ∧ ∀ W : World, IsMap W mb (ents (L.map Pe.en)) clk → Sem.run Try.prog (Instr.lookup 140 (.map (some mb)) (.int .u32 t) true) W = .ok (.tuple #[.agg #[.int .u32 0, .int .u16 0, .int .u16 0, .bool false, .bool false, .bool false, .slice none 0 0, .int .i64 0], .bool false]) W) ∨
    (∃ x ∈ L, Rs.get (L.map (·.p)) t = some x.p ∧ x.p.tsn = t ∧ (L.find? fun e => e.p.tsn == t) = some x ∧ ∀ W : World, IsMap W mb (ents (L.map Pe.en)) clk → Sem.run Try.prog (Instr.lookup 140 (.map (some mb)) (.int .u32 t) true) W = .ok (.tuple #[.agg (pcells x), .bool true]) W) := by
  cases h : L.find? (fun e => e.p.tsn == t) with
  | none =>
    left
    refine ⟨by rw [find_pc, h]; rfl, fun W hW => ?_⟩
    exact run_lookup_out Try.underlying140 Try.underlying29 zero151 _ t (by rw [find_en, h]; rfl) true W hW
  | some x =>
    right
    refine ⟨x, List.mem_of_find?_eq_some h, by rw [find_pc, h]; rfl, by simpa using List.find?_some h, rfl, fun W hW => ?_⟩
    exact run_lookup_in Try.underlying140 Try.underlying29 _ t x.en (by rw [find_en, h]; rfl) true W hW


/-- The first loop of 'whole' stands at x, whose copy is block b. -/
structure WB (L : List Pe) (d : Pe) (w : World) (n : Nat) (x : Pe) (b : Nat) (wr : World) : Prop where
  mem : x ∈ L
  at_ : ∃ k, Rs.AtBack (L.map (·.p)) d.p x.p n k
  blk : Blk wr b 151 (pcells x)
  lo : w.heap.size < b
  dbl : Blk wr w.heap.size 151 (pcells d)
  fr : Fr (fun _ => False) w wr
/-- The second one. -/
structure WF (L : List Pe) (d : Pe) (w : World) (n : Nat) (x : Pe) (b : Nat) (wr : World) : Prop where
  mem : x ∈ L
  at_ : ∃ k, Rs.AtFwd (L.map (·.p)) d.p x.p n k
  blk : Blk wr b 151 (pcells x)
  lo : w.heap.size < b
  dbl : Blk wr w.heap.size 151 (pcells d)
  fr : Fr (fun _ => False) w wr
theorem WB.more {L : List Pe} {d x y : Pe} {w wr w1 w2 : World} {n k b b' : Nat} {cs : Array Value} (h : WB L d w n x b wr) (hy : y ∈ L) (hk : Rs.AtBack (L.map (·.p)) d.p y.p (n - 1) k) (hf : Fr (fun _ => False) (wr.alloc (.cells (pcells y) 151)) w1) (h2 : Fr (· = b) w1 w2)
    (hb' : b' = w2.heap.size) (hcs : cs = pcells y) : WB L d w (n - 1) y b' (w2.alloc (.cells cs 151)) := by
  subst hb' hcs
  have hb : Blk w1 b _ _ := (h.blk.alloc _).fr hf (fun h => h)
  have hd : Blk w1 w.heap.size _ _ := (h.dbl.alloc _).fr hf (fun h => h)
  have h1 : Fr (fun _ => False) w w1 := (h.fr.alloc _).trans hf
  have hs : Fr (fun _ => False) w w2 := h1.then h2 (fun i e => by subst e; exact .inr (Nat.le_of_lt h.lo))
  refine ⟨hy, ⟨k, hk⟩, Blk.new _ _ _, ?_, ?_, hs.alloc _⟩
  · have := hd.lt
    have := h2.size
    omega
  · exact (hd.fr h2 (by have := h.lo; omega)).alloc _
theorem WF.more {L : List Pe} {d x y : Pe} {w wr w1 w2 : World} {n k b b' : Nat} {cs : Array Value} (h : WF L d w n x b wr) (hy : y ∈ L) (hk : Rs.AtFwd (L.map (·.p)) d.p y.p (n - 1) k) (hf : Fr (fun _ => False) (wr.alloc (.cells (pcells y) 151)) w1) (h2 : Fr (· = b) w1 w2)
    (hb' : b' = w2.heap.size) (hcs : cs = pcells y) : WF L d w (n - 1) y b' (w2.alloc (.cells cs 151)) := by
  subst hb' hcs
  have hb : Blk w1 b _ _ := (h.blk.alloc _).fr hf (fun h => h)
  have hd : Blk w1 w.heap.size _ _ := (h.dbl.alloc _).fr hf (fun h => h)
  have h1 : Fr (fun _ => False) w w1 := (h.fr.alloc _).trans hf
  have hs : Fr (fun _ => False) w w2 := h1.then h2 (fun i e => by subst e; exact .inr (Nat.le_of_lt h.lo))
  refine ⟨hy, ⟨k, hk⟩, Blk.new _ _ _, ?_, ?_, hs.alloc _⟩
  · have := hd.lt
    have := h2.size
    omega
  · exact (hd.fr h2 (by have := h.lo; omega)).alloc _


set_option maxHeartbeats 2000000 in
theorem whole_any (g mb clk : Nat) (L : List Pe) (d : Pe) (w : World) (hg : g < w.heap.size) (c0 : w.cell? ⟨g, 0, none⟩ = some (.map (some mb))) (hm : IsMap w mb (ents (L.map Pe.en)) clk)
    (hd : d ∈ L) (hn : (L.map (·.p.tsn)).Nodup) (h0 : 0 ≤ d.p.tsn) (h1 : d.p.tsn < 4294967296) (hl : L.length < 1000000) :
    Calls Try.prog 105 #[.pointer (some ⟨g, 0, none⟩), .agg (pcells d)] w fun e w' => e = .returned (.tuple #[.int .u32 (Rs.ends (L.map (·.p)) d.p).1, .int .u32 (Rs.ends (L.map (·.p)) d.p).2.1, .bool (Rs.ends (L.map (·.p)) d.p).2.2]) ∧ Fr (fun _ => False) w w' := by
  have hn' : ((L.map (·.p)).map (·.tsn)).Nodup := by rw [List.map_map]; exact hn
  have hb0 := Rs.AtBack.start hn' (List.mem_map_of_mem (f := (·.p)) hd) h0 h1
  have hf0 := Rs.AtFwd.start hn' (List.mem_map_of_mem (f := (·.p)) hd) h0 h1
  have hl' : (L.map (·.p)).length < 4294967296 := by simp; omega
  clear hn hn' 
  have hmlt := hm.lt
  have hmlts := hm.lts
  have hglts : ∀ k, g < w.heap.size + k := fun k => by omega
  unfold pcells
  go_enter Try.func105, Try.ntmps105
  go_wp2_with fail
  go_quiet (fail)
  go_wp2_with fail
  go_loopg [4, 5, 7] ((L.map (·.p)).length) (fun n t t2 q wr => ∃ (x : Pe) (b : Nat), t = .int .u32 x.p.tsn ∧ t2 = .int .u32 d.p.tsn ∧ q = .pointer (some ⟨b, 0, none⟩) ∧ WB L d w n x b wr)
  case atStart => exact ⟨d, _, rfl, rfl, rfl, ⟨hd, ⟨0, hb0⟩, (Blk.newAt _ _ (pcells d) _ (by simp)).drewN _, by simp, (Blk.new w 151 (pcells d)).alloc _, (((Fr.refl _ _).alloc _).alloc _).drewN _⟩⟩
  case round =>
    obtain ⟨x, b, rfl, rfl, rfl, hI⟩ := hrel
    obtain ⟨k, hk⟩ := hI.at_
    have cb := hI.blk.cell
    have fb := hI.blk.frozen
    have cd := hI.dbl.cell
    have hbs := hI.blk.lts
    have hds := hI.dbl.lts
    have hbl := hI.blk.lt
    have hdl := hI.dbl.lt
    have hbn : b ≠ w.heap.size := by have := hI.lo; omega
    have hcg : wr.cell? ⟨g, 0, none⟩ = some (.map (some mb)) := (hI.fr.cell hg (fun h => h)).trans c0
    have hmr : IsMap wr mb (ents (L.map Pe.en)) clk := hm.fr hI.fr (fun h => h)
    have hmlt' := hmr.lts
    have hgr : ∀ k, g < wr.heap.size + k := fun k => by have := hI.fr.size; omega
    unfold pcells at cb cd
    cases hfi : x.p.fi with
    | true =>
      have HB := Lib.hid (hk.stop hl' hfi)
      have HFI := Lib.hid hfi
      rw [hfi] at cb
      clear hfi
      go_wp2_with fail
      go_loopg [4, 5, 10] ((L.map (·.p)).length) (fun n t1 t q w2 => ∃ (y : Pe) (b2 : Nat), t1 = .int .u32 x.p.tsn ∧ t = .int .u32 y.p.tsn ∧ q = .pointer (some ⟨b2, 0, none⟩) ∧ WF L d w n y b2 w2)
      case atStart => exact ⟨d, _, rfl, rfl, rfl, ⟨hd, ⟨0, hf0⟩, Blk.new _ _ (pcells d), hdl, hI.dbl.alloc _, hI.fr.alloc _⟩⟩
      case round =>
        obtain ⟨z, b2, rfl, rfl, rfl, hI2⟩ := hrel
        obtain ⟨k2, hk2⟩ := hI2.at_
        clear cb fb cd hbs hds hbl hdl hbn hcg hmr hmlt' hgr
        have cb := hI2.blk.cell
        have fb := hI2.blk.frozen
        have cd := hI2.dbl.cell
        have hbs := hI2.blk.lts
        have hds := hI2.dbl.lts
        have hbl := hI2.blk.lt
        have hdl := hI2.dbl.lt
        have hbn : b2 ≠ w.heap.size := by have := hI2.lo; omega
        have hcg : wr.cell? ⟨g, 0, none⟩ = some (.map (some mb)) := (hI2.fr.cell hg (fun h => h)).trans c0
        have hmr : IsMap wr mb (ents (L.map Pe.en)) clk := hm.fr hI2.fr (fun h => h)
        have hmlt' := hmr.lts
        have hgr : ∀ k, g < wr.heap.size + k := fun k => by have := hI2.fr.size; omega
        unfold pcells at cb cd
        cases hfi2 : z.p.la with
        | true =>
          have HE := Lib.hid (hk2.stop hl' hfi2)
          rw [hfi2] at cb
          clear hfi2
          go_wp2_with fail
          go_ret3
          refine ⟨?_, hI2.fr⟩
          unfold Rs.ends
          rw [HB.out, HE.out]
          rfl
        | false =>
          have HFI2 := Lib.hid hfi2
          rw [hfi2] at cb
          clear hfi2
          rcases look_cases mb clk L ((z.p.tsn + 1) % 4294967296) with ⟨hget, hrun⟩ | ⟨y, hy, hget, hyt, _, hrun⟩
          · have HE := Lib.hid (hk2.miss hl' HFI2.out hget)
            clear hget
            go_wp2_with fail
            go_ret3
            refine ⟨?_, hI2.fr.alloc _⟩
            unfold Rs.ends
            rw [HB.out, HE.out]
            rfl
          · have HG := Lib.hid hget
            clear hget
            unfold pcells at hrun
            have hyt' := Lib.hid hyt
            clear hyt
            cases hmt : Rs.mates y.p d.p with
            | false =>
              have HE := Lib.hid (hk2.bad hl' HFI2.out HG.out (by rw [hmt]; simp))
              go_wp2_with (go_at_call 141; refine (mates_any y d _).mono ?_; rintro e w1 ⟨rfl, hf1⟩; rw [hmt])
              go_ret3
              refine ⟨?_, (hI2.fr.alloc _).trans hf1⟩
              unfold Rs.ends
              rw [HB.out, HE.out]
              rfl
            | true =>
              cases hla : y.p.fi with
              | true =>
                have HE := Lib.hid (hk2.bad hl' HFI2.out HG.out (by rw [hla]; simp))
                have HLA := Lib.hid hla
                clear hla
                go_wp2_with (go_at_call 141; refine (mates_any y d _).mono ?_; rintro e w1 ⟨rfl, hf1⟩; rw [hmt]; have hB8 := (Blk.new wr 151 (pcells y)).fr hf1 (fun h => h); have c8 := hB8.cell; unfold pcells at c8; rw [HLA.out] at c8)
                go_ret3
                refine ⟨?_, (hI2.fr.alloc _).trans hf1⟩
                unfold Rs.ends
                rw [HB.out, HE.out]
                rfl
              | false =>
                have HS := Lib.hid (hk2.step hl' HFI2.out HG.out (by rw [hmt, hla]; rfl))
                have HLA := Lib.hid hla
                clear hla
                go_wp2_with (go_at_call 141; refine (mates_any y d _).mono ?_; rintro e w1 ⟨rfl, hf1⟩; rw [hmt]; have hB8 := (Blk.new wr 151 (pcells y)).fr hf1 (fun h => h); have c8 := hB8.cell; have l8 := hB8.lt; have l8s := hB8.lts; have hB7 := (hI2.blk.alloc _).fr hf1 (fun h => h); have c7 := hB7.cell; have f7 := hB7.frozen; have l7 := hB7.lt; have l7s := hB7.lts; have hne : b2 ≠ wr.heap.size := Nat.ne_of_lt hbl; unfold pcells at c8 c7; rw [HLA.out] at c8; rw [HFI2.out] at c7)
                go_roundg (gk - 1)
                case measure =>
                  have := hk2.pos hl'
                  omega
                case rel =>
                  refine ⟨y, _, rfl, ?_, rfl, ?_⟩
                  · rw [← hyt'.out]
                  · refine WF.more (x := z) (wr := wr) (w1 := w1) (k := k2 + 1) hI2 hy HS.out hf1 ?_ ?_ ?_
                    · repeat (first | (with_reducible exact Fr.refl _ _) | (with_reducible refine Fr.setOne ?_))
                    · simp [World.setCell]
                    · unfold pcells; rw [HLA.out]
    | false =>
      have HFI := Lib.hid hfi
      rw [hfi] at cb
      clear hfi
      rcases look_cases mb clk L ((x.p.tsn - 1) % 4294967296) with ⟨hget, hrun⟩ | ⟨y, hy, hget, hyt, _, hrun⟩
      · have HE := Lib.hid (hk.miss hl' HFI.out hget)
        clear hget
        go_wp2_with fail
        go_ret3
        refine ⟨?_, hI.fr.alloc _⟩
        unfold Rs.ends
        rw [HE.out]
        rfl
      · have HG := Lib.hid hget
        clear hget
        unfold pcells at hrun
        have hyt' := Lib.hid hyt
        clear hyt
        cases hmt : Rs.mates y.p d.p with
        | false =>
          have HE := Lib.hid (hk.bad hl' HFI.out HG.out (by rw [hmt]; simp))
          go_wp2_with (go_at_call 141; refine (mates_any y d _).mono ?_; rintro e w1 ⟨rfl, hf1⟩; rw [hmt])
          go_ret3
          refine ⟨?_, (hI.fr.alloc _).trans hf1⟩
          unfold Rs.ends
          rw [HE.out]
          rfl
        | true =>
          cases hla : y.p.la with
          | true =>
            have HE := Lib.hid (hk.bad hl' HFI.out HG.out (by rw [hla]; simp))
            have HLA := Lib.hid hla
            clear hla
            go_wp2_with (go_at_call 141; refine (mates_any y d _).mono ?_; rintro e w1 ⟨rfl, hf1⟩; rw [hmt]; have hB8 := (Blk.new wr 151 (pcells y)).fr hf1 (fun h => h); have c8 := hB8.cell; unfold pcells at c8; rw [HLA.out] at c8)
            go_ret3
            refine ⟨?_, (hI.fr.alloc _).trans hf1⟩
            unfold Rs.ends
            rw [HE.out]
            rfl
          | false =>
            have HS := Lib.hid (hk.step hl' HFI.out HG.out (by rw [hmt, hla]; rfl))
            have HLA := Lib.hid hla
            clear hla
            go_wp2_with (go_at_call 141; refine (mates_any y d _).mono ?_; rintro e w1 ⟨rfl, hf1⟩; rw [hmt]; have hB8 := (Blk.new wr 151 (pcells y)).fr hf1 (fun h => h); have c8 := hB8.cell; have l8 := hB8.lt; have l8s := hB8.lts; have hB7 := (hI.blk.alloc _).fr hf1 (fun h => h); have c7 := hB7.cell; have f7 := hB7.frozen; have l7 := hB7.lt; have l7s := hB7.lts; have hne : b ≠ wr.heap.size := Nat.ne_of_lt hbl; unfold pcells at c8 c7; rw [HLA.out] at c8; rw [HFI.out] at c7)
            go_roundg (gk - 1)
            case measure =>
              have := hk.pos hl'
              omega
            case rel =>
              refine ⟨y, _, ?_, rfl, rfl, ?_⟩
              · rw [← hyt'.out]
              · refine WB.more (x := x) (wr := wr) (w1 := w1) (k := k + 1) hI hy HS.out hf1 ?_ ?_ ?_
                · repeat (first | (with_reducible exact Fr.refl _ _) | (with_reducible refine Fr.setOne ?_))
                · simp [World.setCell]
                · unfold pcells; rw [HLA.out]
end Go.Proofs.Ytpkbckkminmdmaa
