/- Words on worlds, on blocks of cells, and on maps keyed by 32-bit numbers: plain lemmas for all walks of this seat. -/
import Derived.WalkKit
import Derived.Deep.Draws
import Derived.Maps.RangeRun
import Derived.Lib.Hide
namespace Go.Proofs.Ytpkbckkminmdmaa
open Go.RowKit

/-! ### worlds -/
/-- w1 is w but for the blocks of S and new blocks. -/
structure Fr (S : Nat → Prop) (w w' : World) : Prop where
  os : w'.os = w.os
  tape : w'.tape = w.tape
  output : w'.output = w.output
  size : w.heap.size ≤ w'.heap.size
  block : ∀ k, k < w.heap.size → ¬ S k → w'.heap[k]? = w.heap[k]?

theorem Fr.refl (S : Nat → Prop) (w : World) : Fr S w w := ⟨rfl, rfl, rfl, Nat.le_refl _, fun _ _ _ => rfl⟩
theorem Fr.trans {S : Nat → Prop} {a b c : World} (h : Fr S a b) (k : Fr S b c) : Fr S a c :=
  ⟨k.os.trans h.os, k.tape.trans h.tape, k.output.trans h.output, Nat.le_trans h.size k.size, fun i hi hn => (k.block i (Nat.lt_of_lt_of_le hi h.size) hn).trans (h.block i hi hn)⟩
theorem Fr.mono {S T : Nat → Prop} {w w' : World} (h : Fr S w w') (hs : ∀ k, k < w.heap.size → S k → T k) : Fr T w w' :=
  ⟨h.os, h.tape, h.output, h.size, fun k hk hn => h.block k hk (fun s => hn (hs k hk s))⟩
/-- A second step may turn what is new behind the first. -/
theorem Fr.then {S T : Nat → Prop} {a b c : World} (h : Fr S a b) (k : Fr T b c) (hs : ∀ i, T i → S i ∨ a.heap.size ≤ i) : Fr S a c :=
  ⟨k.os.trans h.os, k.tape.trans h.tape, k.output.trans h.output, Nat.le_trans h.size k.size, fun i hi hn => (k.block i (Nat.lt_of_lt_of_le hi h.size) (fun t => by rcases hs i t with h1 | h1 <;> first | exact hn h1 | omega)).trans (h.block i hi hn)⟩
theorem Fr.below {S : Nat → Prop} {w w' : World} (h : Fr S w w') {B : Nat} (hB : B ≤ w.heap.size) (hs : ∀ k, S k → B ≤ k) : Below B w w' :=
  ⟨h.os, h.tape, h.output, h.size, fun k hk => h.block k (by omega) (fun s => by have := hs k s; omega)⟩
theorem Fr.of_below {w w' : World} (h : Below w.heap.size w w') : Fr (fun _ => False) w w' := ⟨h.os, h.tape, h.output, h.size, fun k hk _ => h.block k hk⟩
theorem Fr.drew {S : Nat → Prop} {a w : World} (h : Fr S a w) : Fr S a w.drew := ⟨h.os, h.tape, h.output, h.size, h.block⟩
theorem Fr.drewN {S : Nat → Prop} {a w : World} (h : Fr S a w) (n : Nat) : Fr S a (w.drewN n) := ⟨h.os, h.tape, h.output, h.size, h.block⟩
theorem Fr.alloc {S : Nat → Prop} {a w : World} (h : Fr S a w) (o : Obj) : Fr S a (w.alloc o) :=
  ⟨h.os, h.tape, h.output, Nat.le_trans h.size (by simp), fun k hk hn => (Below.heap_alloc w o k (Nat.lt_of_lt_of_le hk h.size)).trans (h.block k hk hn)⟩
theorem Fr.setCell {S : Nat → Prop} {a w : World} (h : Fr S a w) {p : Addr} (hp : S p.block ∨ a.heap.size ≤ p.block) (v : Value) : Fr S a (w.setCell p v) :=
  ⟨h.os, h.tape, h.output, by simpa [World.setCell] using h.size, fun k hk hn => (Below.heap_setCell w p v k (fun e => by subst e; rcases hp with h1 | h1 <;> first | exact hn h1 | omega)).trans (h.block k hk hn)⟩
theorem Fr.setOne {b i : Nat} {a w : World} {v : Value} (h : Fr (· = b) a w) : Fr (· = b) a (w.setCell ⟨b, i, none⟩ v) := h.setCell (p := ⟨b, i, none⟩) (.inl rfl) v
theorem Fr.setAt {S : Nat → Prop} {b i : Nat} {a w : World} {v : Value} (h : Fr S a w) (hp : S b ∨ a.heap.size ≤ b) : Fr S a (w.setCell ⟨b, i, none⟩ v) := h.setCell (p := ⟨b, i, none⟩) hp v
theorem Fr.grown {S : Nat → Prop} {a w w' : World} {row : Option Nat} (h : Fr S a w) (hg : w.grownBy w' row) (hr : ∀ k, row = some k → S k ∨ a.heap.size ≤ k) : Fr S a w' :=
  h.then (T := fun k => row = some k) ⟨hg.os, hg.tape, hg.output, hg.size, fun k hk hn => hg.block k hk (fun e => hn e.symm)⟩ hr

theorem Fr.cell {S : Nat → Prop} {w w' : World} (h : Fr S w w') {a : Addr} (hlt : a.block < w.heap.size) (hn : ¬ S a.block) : w'.cell? a = w.cell? a := World.cell?_of_block (h.block a.block hlt hn)
theorem Fr.frozen {S : Nat → Prop} {w w' : World} (h : Fr S w w') {a : Addr} (hlt : a.block < w.heap.size) (hn : ¬ S a.block) : w'.frozen? a = w.frozen? a := World.frozen?_of_block (h.block a.block hlt hn)
theorem alloc_drewN (w : World) (n : Nat) (o : Obj) : (w.drewN n).alloc o = (w.alloc o).drewN n := rfl
theorem setCell_drewN (w : World) (n : Nat) (a : Addr) (v : Value) : (w.drewN n).setCell a v = (w.setCell a v).drewN n := rfl

theorem grown_drew {w w' : World} {row : Option Nat} (h : w.drew.grownBy w' row) : w.grownBy w' row := ⟨h.os, h.tape, h.output, h.size, h.block⟩
theorem grown_drewN {w w' : World} {n : Nat} {row : Option Nat} (h : (w.drewN n).grownBy w' row) : w.grownBy w' row := ⟨h.os, h.tape, h.output, h.size, h.block⟩
theorem grown_fr {w w' : World} {row : Option Nat} (h : w.grownBy w' row) : Fr (fun k => row = some k) w w' := ⟨h.os, h.tape, h.output, h.size, fun k hk hn => h.block k hk (fun e => hn e.symm)⟩

theorem block_of_add (a : Addr) (n : Nat) : (a.add n).block = a.block := by unfold Addr.add; split <;> rfl

/-! ### blocks of cells -/
def Blk (w : World) (g : Nat) (t : TypeId) (cs : Array Value) : Prop := w.heap[g]? = some (.cells cs t (0, 0))
section
variable {w w' : World} {g : Nat} {t : TypeId} {cs : Array Value}
theorem Blk.lt (h : Blk w g t cs) : g < w.heap.size := (Array.getElem?_eq_some_iff.1 h).1
theorem Blk.lts (h : Blk w g t cs) : ∀ k, g < w.heap.size + k := fun k => by have := h.lt; omega
theorem Blk.cell (h : Blk w g t cs) : ∀ i, w.cell? ⟨g, i, none⟩ = cs[i]? := fun i => cell_of_row w g i cs t (0, 0) h
theorem Blk.frozen (h : Blk w g t cs) : ∀ i, w.frozen? ⟨g, i, none⟩ = false := fun i => by
  unfold Blk at h
  simp [World.frozen?, h]
theorem Blk.new (w : World) (t : TypeId) (cs : Array Value) : Blk (w.alloc (.cells cs t)) w.heap.size t cs := heap_alloc_new w _
theorem Blk.newAt (w : World) (t : TypeId) (cs : Array Value) (n : Nat) (h : n = w.heap.size) : Blk (w.alloc (.cells cs t)) n t cs := by subst h; exact Blk.new w t cs
theorem Blk.drew (h : Blk w g t cs) : Blk w.drew g t cs := h
theorem Blk.drewN (h : Blk w g t cs) (n : Nat) : Blk (w.drewN n) g t cs := h
theorem Blk.alloc (h : Blk w g t cs) (o : Obj) : Blk (w.alloc o) g t cs := (Below.heap_alloc w o g h.lt).trans h
theorem Blk.set (h : Blk w g t cs) (i : Nat) (u : Value) : Blk (w.setCell ⟨g, i, none⟩ u) g t (cs.setIfInBounds i u) := by
  unfold Blk at h ⊢
  simp [World.setCell, Array.getElem?_modify, h]
theorem Blk.far (h : Blk w g t cs) {p : Addr} (hp : g ≠ p.block) (u : Value) : Blk (w.setCell p u) g t cs := (Below.heap_setCell w p u g hp).trans h
theorem Blk.below {B : Nat} (h : Blk w g t cs) (hb : Below B w w') (hg : g < B) : Blk w' g t cs := (hb.block g hg).trans h
theorem Blk.fr {S : Nat → Prop} (h : Blk w g t cs) (hf : Fr S w w') (hg : ¬ S g) : Blk w' g t cs := (hf.block g h.lt hg).trans h
theorem Blk.grown {row : Option Nat} (h : Blk w g t cs) (hf : w.grownBy w' row) (hg : some g ≠ row) : Blk w' g t cs := (hf.block g h.lt hg).trans h
theorem Blk.ne {g' : Nat} {t' : TypeId} {cs' : Array Value} (h : Blk w g t cs) (h' : Blk w g' t' cs') (hne : t ≠ t') : g ≠ g' := by
  rintro rfl
  unfold Blk at h h'
  rw [h] at h'
  injection h' with h'
  injection h' with _ ht
  exact hne ht
end

/-! ### maps -/
def IsMap (w : World) (b : Nat) (es : Array MapEntry) (c : Nat) : Prop := w.heap[b]? = some (.map es c)
def setMap (w : World) (b : Nat) (es : Array MapEntry) (c : Nat) : World := { w with heap := w.heap.modify b fun
  | .map _ _ => .map es c
  | o => o }
section
variable {w w' : World} {b : Nat} {es es' : Array MapEntry} {c c' : Nat}
theorem IsMap.lt (h : IsMap w b es c) : b < w.heap.size := (Array.getElem?_eq_some_iff.1 h).1
theorem IsMap.lts (h : IsMap w b es c) : ∀ k, b < w.heap.size + k := fun k => by have := h.lt; omega
theorem isMap_alloc (o : Obj) (h : b < w.heap.size) : IsMap (w.alloc o) b es c = IsMap w b es c := by
  unfold IsMap
  rw [Below.heap_alloc w o b h]
theorem isMap_drew : IsMap w.drew b es c = IsMap w b es c := propext Iff.rfl
theorem isMap_drewN {n : Nat} : IsMap (w.drewN n) b es c = IsMap w b es c := propext Iff.rfl
theorem isMap_setCell (a : Addr) (v : Value) : IsMap (w.setCell a v) b es c = IsMap w b es c := by
  unfold IsMap
  simp only [World.setCell, Array.getElem?_modify]
  split
  · cases h : w.heap[b]? with
    | none => simp
    | some o => cases o <;> simp
  · rfl
theorem IsMap.set (h : IsMap w b es c) (es' : Array MapEntry) (c' : Nat) : IsMap (setMap w b es' c') b es' c' := by
  unfold IsMap at h ⊢
  simp [setMap, Array.getElem?_modify, h]
theorem size_setMap : (setMap w b es c).heap.size = w.heap.size := by simp [setMap]
theorem heap_setMap {k : Nat} (h : k ≠ b) : (setMap w b es c).heap[k]? = w.heap[k]? := by
  simp only [setMap, Array.getElem?_modify]
  rw [if_neg (fun e => h e.symm)]
theorem cell_setMap (a : Addr) : (setMap w b es c).cell? a = w.cell? a := by
  by_cases e : b = a.block
  · unfold World.cell?
    simp only [setMap, Array.getElem?_modify, if_pos e]
    cases h : w.heap[a.block]? with
    | none => simp
    | some o => cases o <;> simp
  · exact World.cell?_of_block (heap_setMap (fun h => e h.symm))
theorem frozen_setMap (a : Addr) : (setMap w b es c).frozen? a = w.frozen? a := by
  by_cases e : b = a.block
  · unfold World.frozen?
    simp only [setMap, Array.getElem?_modify, if_pos e]
    cases h : w.heap[a.block]? with
    | none => simp
    | some o => cases o <;> simp
  · exact World.frozen?_of_block (heap_setMap (fun h => e h.symm))
theorem setMap_drew : setMap w.drew b es c = (setMap w b es c).drew := rfl
theorem setMap_drewN (n : Nat) : setMap (w.drewN n) b es c = (setMap w b es c).drewN n := rfl
theorem blk_setMap {g : Nat} {t : TypeId} {cs : Array Value} : Blk (setMap w b es c) g t cs = Blk w g t cs := by
  unfold Blk
  simp only [setMap, Array.getElem?_modify]
  split
  · cases h : w.heap[g]? with
    | none => simp
    | some o => cases o <;> simp
  · rfl
theorem Fr.setMap {S : Nat → Prop} {a w : World} (h : Fr S a w) (hp : S b ∨ a.heap.size ≤ b) : Fr S a (setMap w b es c) :=
  ⟨h.os, h.tape, h.output, by rw [size_setMap]; exact h.size, fun k hk hn => (heap_setMap (fun e => by subst e; rcases hp with h1 | h1 <;> first | exact hn h1 | omega)).trans (h.block k hk hn)⟩
theorem IsMap.fr {S : Nat → Prop} (h : IsMap w b es c) (hf : Fr S w w') (hg : ¬ S b) : IsMap w' b es c := (hf.block b h.lt hg).trans h
theorem IsMap.below {B : Nat} (h : IsMap w b es c) (hb : Below B w w') (hg : b < B) : IsMap w' b es c := (hb.block b hg).trans h
theorem IsMap.grown {row : Option Nat} (h : IsMap w b es c) (hf : w.grownBy w' row) (hg : some b ≠ row) : IsMap w' b es c := (hf.block b h.lt hg).trans h
theorem IsMap.ne_blk {g : Nat} {t : TypeId} {cs : Array Value} (h : IsMap w b es c) (h' : Blk w g t cs) : b ≠ g := by
  rintro rfl
  unfold IsMap at h
  unfold Blk at h'
  rw [h] at h'
  cases h'
end

/-! ### entries keyed by uint32 -/
structure En where
  key : Int
  val : Value
  born : Nat
def En.entry (e : En) : MapEntry := { key := .int .u32 e.key, val := e.val, born := e.born }
def ents (l : List En) : Array MapEntry := (l.map En.entry).toArray
theorem ents_toList (l : List En) : (ents l).toList = l.map En.entry := by simp [ents]
theorem ents_size (l : List En) : (ents l).size = l.length := by simp [ents]
theorem ents_push (l : List En) (e : En) : (ents l).push e.entry = ents (l ++ [e]) := by simp [ents]

section
variable {P : Program} {w : World} {b c : Nat} {T K E : TypeId}
theorem findNow_none (k : TypeId) (t : Int) : ∀ (l : List En) (i : Nat), (∀ e ∈ l, e.key ≠ t) → Instr.findNow (.int .u32) (.int .u32 t) (l.map En.entry) i = some none
  | [], i, _ => rfl
  | e :: l, i, h => by
    have h1 : (t == e.key) = false := by
      have := h e (by simp)
      simpa using fun hh => this hh.symm
    simp only [List.map_cons, Instr.findNow, En.entry, Instr.sameNow, if_true, h1]
    exact findNow_none k t l (i + 1) (fun x hx => h x (by simp [hx]))
theorem findNow_some (k : TypeId) (t : Int) : ∀ (l : List En) (i : Nat) (e : En), l.find? (fun x => x.key == t) = some e →
    ∃ j, Instr.findNow (.int .u32) (.int .u32 t) (l.map En.entry) i = some (some (i + j, e.val)) ∧ l[j]? = some e ∧ (∀ x ∈ l.take j, x.key ≠ t) ∧ e.key = t
  | [], i, e, h => by simp at h
  | a :: l, i, e, h => by
    by_cases hk : a.key = t
    · have he : a = e := by simpa [hk] using h
      subst he
      refine ⟨0, ?_, rfl, by simp, hk⟩
      have h1 : (t == a.key) = true := by simp [hk]
      simp only [List.map_cons, Instr.findNow, En.entry, Instr.sameNow, if_true, h1]
      rfl
    · have h1 : (t == a.key) = false := by simpa using fun hh => hk hh.symm
      have h2 : l.find? (fun x => x.key == t) = some e := by simpa [hk] using h
      obtain ⟨j, hj, hl, ht, hh⟩ := findNow_some k t l (i + 1) e h2
      refine ⟨j + 1, ?_, hl, ?_, hh⟩
      · simp only [List.map_cons, Instr.findNow, En.entry, Instr.sameNow, if_true, h1]
        have : Instr.findNow (.int .u32) (.int .u32 t) (l.map En.entry) (i + 1) = some (some (i + (j + 1), e.val)) := by rw [hj]; congr 3; omega
        exact this
      · intro x hx
        rw [List.take_succ_cons, List.mem_cons] at hx
        rcases hx with rfl | hx
        · exact hk
        · exact ht x hx
theorem checkKey_u32 (hK : P.underlying K = some (.int .u32)) (em : Bool) (t : Int) (W : World) : (Instr.checkKey em 10000 K (.int .u32 t)).run P W = .ok () W := by
  rw [show (10000 : Nat) = 9999 + 1 from rfl, Instr.checkKey]
  simp [run_underlying hK]
theorem findKey_u32 (hK : P.underlying K = some (.int .u32)) (t : Int) (l : List MapEntry) (W : World) {r : Option (Nat × Value)} (h : Instr.findNow (.int .u32) (.int .u32 t) l 0 = some r) :
    (Instr.findKey K (.int .u32 t) l).run P W = .ok r W := by
  simp [Instr.findKey, run_underlying hK, h]

/-- A key that is there. -/
theorem run_lookup_in (hT : P.underlying T = some (.map K E)) (hK : P.underlying K = some (.int .u32)) (l : List En) (t : Int) (e : En) (hf : l.find? (fun x => x.key == t) = some e) (ok : Bool) (W : World) (hb : IsMap W b (ents l) c) :
    (Instr.lookup T (.map (some b)) (.int .u32 t) ok).run P W = .ok (if ok then .tuple #[e.val, .bool true] else e.val) W := by
  obtain ⟨j, h1, _⟩ := findNow_some K t l 0 e hf
  simp [Instr.lookup, run_underlying hT, MapKept.run_getObj_map hb, checkKey_u32 hK, ents_toList, findKey_u32 hK t _ W h1, Result.andThen]
/-- A key that is not there. -/
theorem run_lookup_out (hT : P.underlying T = some (.map K E)) (hK : P.underlying K = some (.int .u32)) {z : Value} (hz : ∀ W : World, (zeroValue E).run P W = .ok z W) (l : List En) (t : Int) (hf : l.find? (fun x => x.key == t) = none) (ok : Bool) (W : World) (hb : IsMap W b (ents l) c) :
    (Instr.lookup T (.map (some b)) (.int .u32 t) ok).run P W = .ok (if ok then .tuple #[z, .bool false] else z) W := by
  have h1 := findNow_none K t l 0 (fun e he hh => by simpa [hh] using List.find?_eq_none.1 hf e he)
  simp [Instr.lookup, run_underlying hT, MapKept.run_getObj_map hb, checkKey_u32 hK, ents_toList, findKey_u32 hK t _ W h1, hz, Result.andThen]
theorem setBlock_eq_setMap {W : World} {es es' : Array MapEntry} {c c' : Nat} (hb : IsMap W b es c) : ChangeMaps.setBlock W b (.map es' c') = setMap W b es' c' := by
  unfold ChangeMaps.setBlock setMap
  congr 1
  apply Array.ext_getElem?
  intro i
  unfold IsMap at hb
  have hlt := (Array.getElem?_eq_some_iff.1 hb).1
  by_cases e : b = i
  · subst e
    rw [Array.getElem?_setIfInBounds_self_of_lt hlt, Array.getElem?_modify, if_pos rfl, hb]
    rfl
  · rw [Array.getElem?_setIfInBounds_ne e, Array.getElem?_modify, if_neg e]
/-- A store at a key that is not there. -/
theorem run_update_new (hT : P.underlying T = some (.map K E)) (hK : P.underlying K = some (.int .u32)) (l : List En) (t : Int) (v : Value) (hf : l.find? (fun x => x.key == t) = none) (W : World) (hb : IsMap W b (ents l) c) :
    (Instr.mapUpdate T (.map (some b)) (.int .u32 t) v).run P W = .ok () (setMap W b (ents (l ++ [⟨t, v, c⟩])) (c + 1)) := by
  have h1 := findNow_none K t l 0 (fun e he hh => by simpa [hh] using List.find?_eq_none.1 hf e he)
  rw [← setBlock_eq_setMap hb, ← ents_push]
  simp [Instr.mapUpdate, run_underlying hT, MapKept.run_getObj_map hb, checkKey_u32 hK, ents_toList, findKey_u32 hK t _ W h1, MapKept.run_setObj_map _ hb, Result.andThen, ChangeMaps.setBlock, En.entry]
theorem eraseIdx_filter : ∀ (l : List En) (j : Nat) (e : En) (t : Int), l[j]? = some e → e.key = t → (l.map (·.key)).Nodup → l.eraseIdx j = l.filter (fun x => x.key != t)
  | [], j, e, t, h, _, _ => by simp at h
  | a :: l, 0, e, t, h, hk, hn => by
    simp only [List.getElem?_cons_zero, Option.some.injEq] at h
    subst h
    have h2 : l.filter (fun x => x.key != t) = l := by
      rw [List.filter_eq_self]
      intro x hx
      have h3 := (List.nodup_cons.1 (show (a.key :: l.map (·.key)).Nodup from hn)).1
      simp only [bne_iff_ne, ne_eq]
      intro hh
      exact h3 (by rw [hk, ← hh]; exact List.mem_map_of_mem (f := (·.key)) hx)
    simp [hk, h2]
  | a :: l, j + 1, e, t, h, hk, hn => by
    have hn' := List.nodup_cons.1 (show (a.key :: l.map (·.key)).Nodup from hn)
    have he : e ∈ l := List.mem_of_getElem? (by simpa using h)
    have hne : (a.key != t) = true := by
      simp only [bne_iff_ne, ne_eq]
      intro hh
      exact hn'.1 (by rw [hh, ← hk]; exact List.mem_map_of_mem (f := (·.key)) he)
    simp only [List.eraseIdx_cons_succ, List.filter_cons, hne, if_true]
    rw [eraseIdx_filter l j e t (by simpa using h) hk hn'.2]
theorem map_eraseIdx (f : En → MapEntry) : ∀ (l : List En) (j : Nat), (l.map f).eraseIdx j = (l.eraseIdx j).map f
  | [], _ => by simp
  | _ :: _, 0 => by simp
  | _ :: l, j + 1 => by simp [map_eraseIdx f l j]
theorem setMap_same {W : World} {es : Array MapEntry} (hb : IsMap W b es c) : setMap W b es c = W := by
  unfold setMap
  have : (W.heap.modify b fun | .map _ _ => Obj.map es c | o => o) = W.heap := by
    apply Array.ext_getElem?
    intro i
    unfold IsMap at hb
    by_cases e : b = i
    · subst e
      rw [Array.getElem?_modify, if_pos rfl, hb]
      rfl
    · rw [Array.getElem?_modify, if_neg e]
  rw [this]
/-- 'delete', whether the key is there or not. -/
theorem run_delete (hT : P.underlying T = some (.map K E)) (hK : P.underlying K = some (.int .u32)) (l : List En) (hn : (l.map (·.key)).Nodup) (t : Int) (ty : TypeId) (W : World) (hb : IsMap W b (ents l) c) :
    (Builtin.delete_ #[T, K] ty #[.map (some b), .int .u32 t]).run P W = .ok (.tuple #[]) (setMap W b (ents (l.filter fun x => x.key != t)) c) := by
  cases hf : l.find? (fun x => x.key == t) with
  | none =>
    have h1 := findNow_none K t l 0 (fun e he hh => by simpa [hh] using List.find?_eq_none.1 hf e he)
    have h2 : l.filter (fun x => x.key != t) = l := by
      rw [List.filter_eq_self]
      intro x hx
      have := List.find?_eq_none.1 hf x hx
      simpa using this
    rw [h2, ← setBlock_eq_setMap hb]
    simp [Builtin.delete_, run_underlying hT, MapKept.run_getObj_map hb, checkKey_u32 hK, ents_toList, findKey_u32 hK t _ W h1, MapKept.run_setObj_map _ hb, Result.andThen, ChangeMaps.setBlock]
  | some e =>
    obtain ⟨j, h1, h2, _, h4⟩ := findNow_some K t l 0 e hf
    rw [← setBlock_eq_setMap hb, ← eraseIdx_filter l j e t h2 h4 hn]
    have h3 : (ents l).eraseIdxIfInBounds j = ents (l.eraseIdx j) := by
      apply Array.ext'
      simp [ents, map_eraseIdx]
    simp [Builtin.delete_, run_underlying hT, MapKept.run_getObj_map hb, checkKey_u32 hK, ents_toList, findKey_u32 hK t _ W h1, MapKept.run_setObj_map _ hb, Result.andThen, ChangeMaps.setBlock, h3]
theorem run_len_map (hT : P.underlying T = some (.map K E)) (l : List En) (ty : TypeId) (W : World) (hb : IsMap W b (ents l) c) : (Builtin.len_ #[T] ty #[.map (some b)]).run P W = .ok (.int .i64 l.length) W := by
  simp [Builtin.len_, run_underlying hT, MapKept.run_getObj_map hb, ents_size, goInt]
theorem run_range_ents (hT : P.underlying T = some (.map K E)) (es : Array MapEntry) (W : World) (hb : IsMap W b es c) :
    (Instr.range T (.map (some b))).run P W = .ok (.pointer (some ⟨W.heap.size, 0, none⟩)) (W.alloc (.mapIter (some b) c #[] c)) := run_range_map W T K E b es c hT hb

/-! ### a walk over a map -/
def IsIter (w : World) (r m since : Nat) (seen : Array Nat) (last : Nat) : Prop := w.heap[r]? = some (.mapIter (some m) since seen last)
theorem IsIter.fr {S : Nat → Prop} {w w' : World} {r m since last : Nat} {seen : Array Nat} (h : IsIter w r m since seen last) (hf : Fr S w w') (hg : ¬ S r) : IsIter w' r m since seen last :=
  (hf.block r (Array.getElem?_eq_some_iff.1 h).1 hg).trans h
theorem IsIter.lt {w : World} {r m since last : Nat} {seen : Array Nat} (h : IsIter w r m since seen last) : r < w.heap.size := (Array.getElem?_eq_some_iff.1 h).1
/-- 'next', and the 'entry' behind it. The map may have lost entries since the loop began, and got none. -/
theorem next_cases (w : World) (ty : TypeId) (r m since last : Nat) (seen : Array Nat) (l : List En) (clock : Nat) (hr : IsIter w r m since seen last) (hb : IsMap w m (ents l) clock)
    (hold : ∀ x ∈ l, x.born < since) (hsc : since ≤ last) (hn : (l.map (·.born)).Nodup) :
    ((∀ x ∈ l, x.born ∈ seen) ∧ (Instr.next (.pointer (some ⟨r, 0, none⟩)) false ty).run P w = .ok (.tuple #[.bool false]) w) ∨
    ∃ e ∈ l, e.born ∉ seen ∧ ∃ w1 : World, (Instr.next (.pointer (some ⟨r, 0, none⟩)) false ty).run P w = .ok (.tuple #[.bool true, .int .u32 e.key, e.val]) w1 ∧
      (Instr.entry (.pointer (some ⟨r, 0, none⟩))).run P w1 = .ok (.tuple #[.int .u32 e.key, e.val]) w1 ∧ IsIter w1 r m since (seen.push e.born) clock ∧ Fr (· = r) w w1 ∧ w1.heap.size = w.heap.size := by
  have hold' : ∀ x ∈ (ents l).toList, x.born < since := by
    intro x hx
    rw [ents_toList, List.mem_map] at hx
    obtain ⟨e, he, rfl⟩ := hx
    exact hold e he
  have hmem : ∀ (x : MapEntry), x ∈ (leftOf (ents l) seen).toList ↔ ∃ e ∈ l, e.entry = x ∧ e.born ∉ seen := by
    intro x
    simp only [leftOf, Array.toList_filter, List.mem_filter, ents_toList, List.mem_map, Bool.not_eq_true', Array.contains_eq_mem, decide_eq_false_iff_not]
    constructor
    · rintro ⟨⟨e, he, rfl⟩, h2⟩
      exact ⟨e, he, rfl, h2⟩
    · rintro ⟨e, he, rfl, h2⟩
      exact ⟨⟨e, he, rfl⟩, h2⟩
  rcases run_next_at (P := P) w ty r m since last seen (ents l) clock hr hb hold' hsc with ⟨h0, hrun⟩ | ⟨x, hx, w1, hw1, hrun⟩
  · left
    refine ⟨fun x hx => ?_, hrun⟩
    rcases Classical.em (x.born ∈ seen) with h | h
    · exact h
    · have : x.entry ∈ (leftOf (ents l) seen).toList := (hmem _).2 ⟨x, hx, rfl, h⟩
      have : 0 < (leftOf (ents l) seen).toList.length := List.length_pos_of_mem this
      simp at this
      omega
  · right
    obtain ⟨e, he, rfl, hns⟩ := (hmem x).1 hx
    have hlt : r < w.heap.size := (Array.getElem?_eq_some_iff.1 hr).1
    have hr1 : w1.heap[r]? = some (.mapIter (some m) since seen last) := by rcases hw1 with rfl | rfl <;> exact hr
    have hs1 : w1.heap.size = w.heap.size := by rcases hw1 with rfl | rfl <;> rfl
    have hit : IsIter (ChangeMaps.setBlock w1 r (.mapIter (some m) since (seen.push e.entry.born) clock)) r m since (seen.push e.born) clock := by
      unfold IsIter ChangeMaps.setBlock
      simp [hs1, hlt, En.entry]
    have hne : m ≠ r := by
      rintro rfl
      unfold IsMap at hb
      unfold IsIter at hr
      rw [hb] at hr
      cases hr
    have hfr : Fr (· = r) w (ChangeMaps.setBlock w1 r (.mapIter (some m) since (seen.push e.entry.born) clock)) := by
      have hA : w1.os = w.os ∧ w1.tape = w.tape ∧ w1.output = w.output ∧ w1.heap = w.heap := by rcases hw1 with rfl | rfl <;> exact ⟨rfl, rfl, rfl, rfl⟩
      refine ⟨hA.1, hA.2.1, hA.2.2.1, by simp [ChangeMaps.setBlock, hA.2.2.2], fun k hk hnk => ?_⟩
      simp only [ChangeMaps.setBlock, hA.2.2.2, Array.getElem?_setIfInBounds]
      rw [if_neg (fun e => hnk e.symm)]
    have hb1 : IsMap (ChangeMaps.setBlock w1 r (.mapIter (some m) since (seen.push e.entry.born) clock)) m (ents l) clock := hb.fr hfr hne
    refine ⟨e, he, hns, _, hrun, ?_, hit, hfr, by simp [ChangeMaps.setBlock, hs1]⟩
    refine run_entry_at (P := P) _ r m since seen (ents l) clock e.entry hit hb1 (by rw [ents_toList]; exact List.mem_map_of_mem he) ?_
    rw [ents_toList, List.map_map]
    exact hn
end
end Go.Proofs.Ytpkbckkminmdmaa
