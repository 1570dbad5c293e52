/- The translation's head line, read by parts: facts that every row of this seat asks for. -/
import Derived.Test.YtpkbckkminmdmaaRows
import Derived.ProofKit
namespace Go.Proofs.Ytpkbckkminmdmaa
open Go.ChangeShapes Go.WideShapes Go.ChangeAt Go.RowKit
def headSum : List Nat := [49, 51, 56, 98, 55, 102, 99, 101, 53, 51, 57, 97, 100, 55, 101, 57, 98, 102, 48, 49, 50, 54, 49, 54, 102, 100, 98, 98, 97, 98, 52, 100, 102, 50, 100, 49, 99, 98, 48, 51, 51, 52, 48, 54, 100, 98, 99, 50, 57, 49, 99, 50, 55, 98, 55, 99, 48, 102, 54, 102, 101, 99, 102, 102]
def headRest : List Nat := [97, 116, 32, 102, 97, 105, 114, 108, 101, 97, 100, 47, 102, 97, 105, 114, 108, 101, 97, 100, 108, 97, 119, 49, 56, 46, 82, 101, 97, 115, 109, 72, 101, 108, 100, 32, 102, 97, 105, 114, 108, 101, 97, 100, 47, 102, 97, 105, 114, 108, 101, 97, 100, 108, 97, 119, 49, 56, 46, 82, 101, 97, 115, 109, 80, 108, 97, 121, 115, 32, 102, 97, 105, 114, 108, 101, 97, 100, 47, 102, 97, 105, 114, 108, 101, 97, 100, 108, 97, 119, 49, 56, 46, 82, 101, 97, 115, 109, 79, 114, 100, 101, 114, 32, 102, 97, 105, 114, 108, 101, 97, 100, 47, 102, 97, 105, 114, 108, 101, 97, 100, 108, 97, 119, 49, 56, 46, 82, 101, 97, 115, 109, 83, 111, 111, 110, 32, 102, 97, 105, 114, 108, 101, 97, 100, 47, 102, 97, 105, 114, 108, 101, 97, 100, 108, 97, 119, 49, 56, 46, 82, 101, 97, 115, 109, 83, 107, 105, 112, 115, 32, 102, 97, 105, 114, 108, 101, 97, 100, 47, 102, 97, 105, 114, 108, 101, 97, 100, 108, 97, 119, 49, 56, 46, 82, 101, 97, 115, 109, 78, 105, 108, 32, 102, 97, 105, 114, 108, 101, 97, 100, 47, 102, 97, 105, 114, 108, 101, 97, 100, 108, 97, 119, 48, 52, 46, 83, 112, 97, 110, 115, 71, 97, 112, 115, 32, 102, 97, 105, 114, 108, 101, 97, 100, 47, 102, 97, 105, 114, 108, 101, 97, 100, 108, 97, 119, 48, 52, 46, 83, 112, 97, 110, 115, 83, 101, 116, 116, 108, 101, 32, 102, 97, 105, 114, 108, 101, 97, 100, 47, 102, 97, 105, 114, 108, 101, 97, 100, 108, 97, 119, 49, 57, 46, 82, 101, 99, 118, 113, 78, 105, 108, 32, 102, 97, 105, 114, 108, 101, 97, 100, 47, 102, 97, 105, 114, 108, 101, 97, 100, 108, 97, 119, 48, 52, 46, 83, 112, 97, 110, 115, 79, 114, 100, 101, 114, 32, 102, 97, 105, 114, 108, 101, 97, 100, 47, 102, 97, 105, 114, 108, 101, 97, 100, 108, 97, 119, 48, 52, 46, 83, 112, 97, 110, 115, 70, 101, 119, 32, 102, 97, 105, 114, 108, 101, 97, 100, 47, 102, 97, 105, 114, 108, 101, 97, 100, 108, 97, 119, 48, 52, 46, 83, 112, 97, 110, 115, 80, 108, 97, 121, 115, 32, 102, 97, 105, 114, 108, 101, 97, 100, 47, 102, 97, 105, 114, 108, 101, 97, 100, 108, 97, 119, 48, 52, 46, 83, 112, 97, 110, 115, 77, 111, 118, 101, 32, 102, 97, 105, 114, 108, 101, 97, 100, 47, 102, 97, 105, 114, 108, 101, 97, 100, 108, 97, 119, 48, 52, 46, 83, 112, 97, 110, 115, 78, 105, 108, 32, 102, 97, 105, 114, 108, 101, 97, 100, 47, 102, 97, 105, 114, 108, 101, 97, 100, 108, 97, 119, 49, 53, 46, 84, 115, 110, 109, 97, 112, 80, 108, 97, 121, 115, 32, 102, 97, 105, 114, 108, 101, 97, 100, 47, 102, 97, 105, 114, 108, 101, 97, 100, 108, 97, 119, 49, 53, 46, 84, 115, 110, 109, 97, 112, 79, 114, 100, 101, 114, 32, 102, 97, 105, 114, 108, 101, 97, 100, 47, 102, 97, 105, 114, 108, 101, 97, 100, 108, 97, 119, 49, 53, 46, 84, 115, 110, 109, 97, 112, 82, 117, 110, 115, 32, 102, 97, 105, 114, 108, 101, 97, 100, 47, 102, 97, 105, 114, 108, 101, 97, 100, 108, 97, 119, 49, 53, 46, 84, 115, 110, 109, 97, 112, 79, 110, 32, 102, 97, 105, 114, 108, 101, 97, 100, 47, 102, 97, 105, 114, 108, 101, 97, 100, 108, 97, 119, 49, 53, 46, 84, 115, 110, 109, 97, 112, 82, 111, 119, 32, 102, 97, 105, 114, 108, 101, 97, 100, 47, 102, 97, 105, 114, 108, 101, 97, 100, 108, 97, 119, 49, 53, 46, 84, 115, 110, 109, 97, 112, 78, 105, 108, 32, 102, 97, 105, 114, 108, 101, 97, 100, 47, 102, 97, 105, 114, 108, 101, 97, 100, 108, 97, 119, 49, 57, 46, 82, 101, 99, 118, 113, 79, 110, 99, 101, 32, 102, 97, 105, 114, 108, 101, 97, 100, 47, 102, 97, 105, 114, 108, 101, 97, 100, 108, 97, 119, 49, 57, 46, 82, 101, 99, 118, 113, 83, 111, 111, 110, 32, 102, 97, 105, 114, 108, 101, 97, 100, 47, 102, 97, 105, 114, 108, 101, 97, 100, 108, 97, 119, 49, 57, 46, 82, 101, 99, 118, 113, 82, 111, 111, 109]
def headNums : List Nat := [104, 97, 114, 110, 101, 115, 115] ++ 32 :: (headSum ++ 32 :: ([99, 117, 116] ++ 32 :: headRest))
set_option maxRecDepth 100000 in
theorem head_str : Try.prog.initOrder = String.ofList (headNums.map Char.ofNat) := by kernel_rfl
theorem head_list : Try.prog.initOrder.toList = headNums.map Char.ofNat := by rw [head_str, String.toList_ofList]
theorem words_step (r : List Char) : ∀ (w : List Char), (w.all fun c => c != Char.ofNat 32) = true → wordsSigns (w ++ Char.ofNat 32 :: r) = w :: wordsSigns r
  | [], _ => rfl
  | c :: w, h => by
    rw [List.all_cons, Bool.and_eq_true] at h
    have ih := words_step r w h.2
    have hc : c ≠ Char.ofNat 32 := by simpa using h.1
    show wordsSigns (c :: (w ++ Char.ofNat 32 :: r)) = _
    rw [wordsSigns, ih]
    exact hc
theorem head_words : behindMainWord (wordsSigns Try.prog.initOrder.toList) = ([99, 117, 116].map Char.ofNat) :: wordsSigns (headRest.map Char.ofNat) := by
  rw [head_list]
  have e : headNums.map Char.ofNat = ([104, 97, 114, 110, 101, 115, 115] : List Nat).map Char.ofNat ++ Char.ofNat 32 :: (headSum.map Char.ofNat ++ Char.ofNat 32 :: (([99, 117, 116] : List Nat).map Char.ofNat ++ Char.ofNat 32 :: headRest.map Char.ofNat)) := by
    unfold headNums
    simp only [List.map_append, List.map_cons]
  rw [e, words_step _ _ (by kernel_rfl), words_step _ _ (by kernel_rfl), words_step _ _ (by kernel_rfl)]
  generalize wordsSigns (headRest.map Char.ofNat) = X
  unfold behindMainWord
  exact if_pos (by kernel_rfl)
theorem heard : Try.prog.stopsHeard = true := by kernel_rfl
theorem cut1 : (([99, 117, 116] : List Nat).map Char.ofNat == "gc".toList || ([99, 117, 116] : List Nat).map Char.ofNat == "spec".toList) = false := by kernel_rfl
theorem cut2 : (([99, 117, 116] : List Nat).map Char.ofNat == "cut".toList) = true := by kernel_rfl
theorem cut3 : (([99, 117, 116] : List Nat).map Char.ofNat == "carried".toList) = false := by kernel_rfl
theorem strip_cut (X : List (List Char)) : stripLifts liftWords ((([99, 117, 116] : List Nat).map Char.ofNat) :: X) = ([], (([99, 117, 116] : List Nat).map Char.ofNat) :: X) := by kernel_rfl
theorem lays : Try.prog.laysLater = false := by kernel_rfl
theorem bears : Try.prog.bearsReflect = false := by kernel_rfl
theorem door : Try.prog.doorFits [] = true := by kernel_rfl
theorem make_gen (P : Program) (X : List (List Char)) (h : behindMainWord (wordsSigns P.initOrder.toList) = (([99, 117, 116] : List Nat).map Char.ofNat) :: X) : P.make = some .cut := by
  unfold Program.make
  rw [h]
  dsimp only
  rw [cut1, cut2]
  rfl
theorem lifts_gen (P : Program) (X : List (List Char)) (h : behindMainWord (wordsSigns P.initOrder.toList) = (([99, 117, 116] : List Nat).map Char.ofNat) :: X) : P.liftsFinal = false := by
  unfold Program.liftsFinal Program.headLifts
  rw [h, strip_cut]
  kernel_rfl
theorem enter_gen (P : Program) (X : List (List Char)) (h : behindMainWord (wordsSigns P.initOrder.toList) = (([99, 117, 116] : List Nat).map Char.ofNat) :: X) (h1 : P.laysLater = false) (h2 : P.bearsReflect = false) (h3 : P.doorFits [] = true) : P.mayEnter = true := by
  unfold Program.mayEnter
  rw [h]
  dsimp only
  rw [strip_cut, cut1, cut3, h1, h2]
  dsimp only
  rw [List.head?_cons, h3]
  have : (some (([99, 117, 116] : List Nat).map Char.ofNat) == some "cut".toList) = true := by kernel_rfl
  rw [this]
  rfl
theorem make_eq : Try.prog.make = some .cut := make_gen _ _ head_words
theorem lifts_eq : Try.prog.liftsFinal = false := lifts_gen _ _ head_words
theorem enter_eq : Try.prog.mayEnter = true := enter_gen _ _ head_words lays bears door
end Go.Proofs.Ytpkbckkminmdmaa
