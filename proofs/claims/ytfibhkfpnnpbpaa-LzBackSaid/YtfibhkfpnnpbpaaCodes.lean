/- What lz.LengthCode, lz.LengthOf, lz.DistanceCode and lz.DistanceOf come to: plain functions over the groups. No condition beyond an int's own bounds. -/
import Derived.Test.YtfibhkfpnnpbpaaPLengthCodex1
import Derived.Test.YtfibhkfpnnpbpaaPLengthOfx1
import Derived.Test.YtfibhkfpnnpbpaaPDistanceCodex1
import Derived.Test.YtfibhkfpnnpbpaaPDistanceOfx1
namespace Go.Proofs.Ytfibhkfpnnpbpaa.Codes
open Go.RowKit Go.Proofs.YtfibhkfpnnpbpaaW.PrintWords Go.Proofs.YtfibhkfpnnpbpaaW.PrintLast Go.Proofs.YtfibhkfpnnpbpaaW.PrintMore

/-- A group: the first code, its least number, how many digits are added, how many codes. -/
structure Gr where
  c : Int
  b : Int
  e : Nat
  m : Int
def LT : List Gr := [⟨257, 3, 0, 8⟩, ⟨265, 11, 1, 4⟩, ⟨269, 19, 2, 4⟩, ⟨273, 35, 3, 4⟩, ⟨277, 67, 4, 4⟩, ⟨281, 131, 5, 4⟩, ⟨285, 258, 0, 1⟩]
def DT : List Gr := [⟨0, 1, 0, 4⟩, ⟨4, 5, 1, 2⟩, ⟨6, 9, 2, 2⟩, ⟨8, 17, 3, 2⟩, ⟨10, 33, 4, 2⟩, ⟨12, 65, 5, 2⟩, ⟨14, 129, 6, 2⟩, ⟨16, 257, 7, 2⟩, ⟨18, 513, 8, 2⟩, ⟨20, 1025, 9, 2⟩, ⟨22, 2049, 10, 2⟩, ⟨24, 4097, 11, 2⟩, ⟨26, 8193, 12, 2⟩, ⟨28, 16385, 13, 2⟩]
abbrev Gr.ok (g : Gr) : Prop := 0 ≤ g.c ∧ g.c ≤ 1000 ∧ 0 ≤ g.b ∧ g.b ≤ 40000 ∧ g.e < 14 ∧ 0 ≤ g.m ∧ g.m ≤ 8
/-- The last group whose least number is not above n. -/
def ofS : List Gr → Int → Int × Int × Int
  | [], _ => (0, 0, 0)
  | g :: gs, n => if n ≥ g.b then (g.c + (n - g.b) / 2 ^ g.e, (n - g.b) % 2 ^ g.e, (g.e : Int)) else ofS gs n
/-- The group that a code is of. -/
def baseS : List Gr → Int → Int × Int × Bool
  | [], _ => (0, 0, false)
  | g :: gs, c => if c ≥ g.c then (if c < g.c + g.m then (g.b + (c - g.c) * 2 ^ g.e, (g.e : Int), true) else baseS gs c) else baseS gs c
theorem ofS_hit (g : Gr) (gs : List Gr) (n : Int) (h : n ≥ g.b) : ofS (g :: gs) n = (g.c + (n - g.b) / 2 ^ g.e, (n - g.b) % 2 ^ g.e, (g.e : Int)) := by simp only [ofS]; rw [if_pos h]
theorem ofS_miss (g : Gr) (gs : List Gr) (n : Int) (h : ¬ n ≥ g.b) : ofS (g :: gs) n = ofS gs n := by simp only [ofS]; rw [if_neg h]
theorem baseS_hit (g : Gr) (gs : List Gr) (c : Int) (h : c ≥ g.c) (h' : c < g.c + g.m) : baseS (g :: gs) c = (g.b + (c - g.c) * 2 ^ g.e, (g.e : Int), true) := by simp only [baseS]; rw [if_pos h, if_pos h']
theorem baseS_miss (g : Gr) (gs : List Gr) (c : Int) (h : ¬ (c ≥ g.c ∧ c < g.c + g.m)) : baseS (g :: gs) c = baseS gs c := by
  simp only [baseS]
  by_cases h1 : c ≥ g.c
  · rw [if_pos h1, if_neg (fun h2 => h ⟨h1, h2⟩)]
  · rw [if_neg h1]
theorem mask_eq : ∀ e : Nat, e < 14 → wrap64 (shl .i64 1 (e : Int) - 1) = 2 ^ e - 1 := by decide +kernel
theorem pow_small : ∀ e : Nat, e < 14 → (2 : Int) ^ e ≤ 8192 ∧ 1 ≤ (2 : Int) ^ e := by decide +kernel
theorem wraps_i64' (n : Int) (h0 : 0 ≤ n) (h1 : n < 2 ^ 40) : IntKind.i64.wrap n = n := by rw [IntKind.wrap_i64]; omega
theorem w64 (n : Int) (h0 : -4611686018427387904 ≤ n) (h1 : n ≤ 4611686018427387904) : wrap64 n = n := by unfold wrap64; omega
theorem and_eq (x : Int) (e : Nat) (he : e < 14) (h0 : 0 ≤ x) (h1 : x < 2 ^ 40) : Go.bits .and .i64 x (wrap64 (shl .i64 1 (e : Int) - 1)) = x % 2 ^ e := by
  rw [mask_eq e he]
  exact bits_mask .i64 40 (by decide) wraps_i64' e (by omega) x h0 h1
theorem shr_eq (x : Int) (e : Nat) (he : e < 14) : shr .i64 x (e : Int) = x / 2 ^ e := by
  unfold shr
  rw [Int.toNat_natCast, Nat.min_eq_left (by simp [IntKind.bits]; omega)]
theorem shl_eq (x : Int) (e : Nat) (he : e < 14) (h0 : 0 ≤ x) (h1 : x ≤ 1000) : shl .i64 x (e : Int) = x * 2 ^ e := by
  unfold shl
  rw [Int.toNat_natCast, Nat.min_eq_left (by simp [IntKind.bits]; omega)]
  obtain ⟨a, b⟩ := pow_small e he
  have := Int.mul_le_mul h1 a (by omega) (by omega)
  have := Int.mul_nonneg h0 (by omega : (0:Int) ≤ 2 ^ e)
  exact wraps_i64' _ (by omega) (by omega)
theorem sum_small (x y : Int) {p : Int} (h0 : 0 ≤ x) (h1 : x ≤ 40000) (h2 : 0 ≤ y) (h3 : y ≤ 8 * 8192) (_hp : p ≤ 8192) : wrap64 (x + y) = x + y := w64 _ (by omega) (by omega)
theorem div_small (x : Int) (e : Nat) (he : e < 14) (h0 : 0 ≤ x) : 0 ≤ x / 2 ^ e ∧ x / 2 ^ e ≤ x := by
  obtain ⟨a, b⟩ := pow_small e he
  refine ⟨Int.ediv_nonneg h0 (by omega), ?_⟩
  have := Int.ediv_le_self (2 ^ e) h0
  exact this

section
open Go.Proofs.Ytfibhkfpnnpbpaa.PLengthCode
def grLengthCode (g : S59) : Gr := ⟨g.f0, g.f1, g.f2.toNat, g.f3⟩
theorem of_evLengthCode (l : List S59) (n : Int) (hn : -1000000 ≤ n) (hn2 : n ≤ 1000000) (hl : l.length ≤ 20) (hok : ∀ g ∈ l, (grLengthCode g).ok ∧ 0 ≤ g.f2) : Ev (fun k => lz_of.f k l n) (ofS (l.reverse.map grLengthCode) n) := by
  have key : ∀ m : Nat, m ≤ l.length → Ev (fun k => lz_of.l0 k l n ((m : Int) - 1)) (ofS ((l.take m).reverse.map grLengthCode) n) := by
    intro m
    induction m with
    | zero =>
      intro _
      refine Ev.step (f := fun _ => some (0, 0, 0)) (fun k => ?_) (Ev.now _)
      simp only [lz_of.l0]
      rw [if_neg (by omega)]
    | succ m ih =>
      intro hm
      have hg : l[m]? = some l[m] := List.getElem?_eq_getElem (by omega)
      obtain ⟨⟨a1, a2, a3, a4, a5, a6, a7⟩, a8⟩ := hok _ (List.getElem_mem (h := (by omega : m < l.length)))
      generalize hgl : l[m] = g at *
      simp only [grLengthCode] at a1 a2 a3 a4 a5 a6 a7
      have hr : rd_T59 l (m : Int) = g := by simp [rd_T59, List.getD_eq_getElem?_getD, hg]
      have hx : ((((m + 1 : Nat)) : Int) - 1) = (m : Int) := by omega
      have ht : ((l.take (m + 1)).reverse.map grLengthCode) = grLengthCode g :: ((l.take m).reverse.map grLengthCode) := by
        rw [List.take_succ_eq_append_getElem (by omega), hgl]
        simp
      obtain ⟨e, he⟩ := Int.eq_ofNat_of_zero_le a8
      rw [ht, hx]
      by_cases hc : n ≥ g.f1
      · rw [ofS_hit (grLengthCode g) _ n hc]
        have he' : e < 14 := by rw [he] at a5; exact a5
        have hd := div_small (n - g.f1) e he' (by omega)
        have hs : wrap64 (g.f0 + shr .i64 (wrap64 (n - g.f1)) g.f2) = g.f0 + (n - g.f1) / 2 ^ e := by
          rw [w64 (n - g.f1) (by omega) (by omega), he, shr_eq _ _ he', w64 _ (by omega) (by omega)]
        have ha : Go.bits .and .i64 (wrap64 (n - g.f1)) (wrap64 (shl .i64 1 g.f2 - 1)) = (n - g.f1) % 2 ^ e := by
          rw [w64 (n - g.f1) (by omega) (by omega), he, and_eq _ _ he' (by omega) (by omega)]
        have hv : ((grLengthCode g).c + (n - (grLengthCode g).b) / 2 ^ (grLengthCode g).e, (n - (grLengthCode g).b) % 2 ^ (grLengthCode g).e, ((grLengthCode g).e : Int)) = (g.f0 + (n - g.f1) / 2 ^ e, (n - g.f1) % 2 ^ e, g.f2) := by
          simp only [grLengthCode, he, Int.toNat_natCast]
        rw [hv]
        refine Ev.step (f := fun _ => some (g.f0 + (n - g.f1) / 2 ^ e, (n - g.f1) % 2 ^ e, g.f2)) (fun k => ?_) (Ev.now _)
        simp only [lz_of.l0]
        rw [if_pos (by omega), if_pos (by omega), if_pos (by omega), hr, if_pos hc, if_pos a8, hs, ha]
      · rw [ofS_miss (grLengthCode g) _ n hc]
        refine Ev.step (f := fun k => lz_of.l0 k l n ((m : Int) - 1)) (fun k => ?_) (ih (by omega))
        simp only [lz_of.l0]
        rw [if_pos (by omega), if_pos (by omega), if_pos (by omega), hr, if_neg hc, w64 _ (by omega) (by omega)]
  have h := key l.length (Nat.le_refl _)
  rw [List.take_length] at h
  refine Ev.congr (fun k => ?_) h
  simp only [lz_of.f]
  rw [w64 _ (by omega) (by omega)]
def tabLengthCode : List S59 := [⟨257, 3, 0, 8⟩, ⟨265, 11, 1, 4⟩, ⟨269, 19, 2, 4⟩, ⟨273, 35, 3, 4⟩, ⟨277, 67, 4, 4⟩, ⟨281, 131, 5, 4⟩, ⟨285, 258, 0, 1⟩]
theorem tabevLengthCode : Ev (fun _ => lz_lengths.f) tabLengthCode := Ev.now _
theorem LengthCode_ev (n : Int) (h0 : 3 ≤ n) (h1 : n ≤ 258) : Ev (fun k => lz_LengthCode.f k n) (ofS LT.reverse n) := by
  have e1 := of_evLengthCode tabLengthCode n (by omega) (by omega) (by decide) (by decide +kernel)
  have e2 : tabLengthCode.reverse.map grLengthCode = LT.reverse := rfl
  rw [e2] at e1
  have e3 : Ev (fun k => lz_LengthCode.j0 k n false) (ofS LT.reverse n) := by
    refine Ev.step (fun k => ?_) (Ev.bind (f := fun k t => (lz_of.f k t n).bind fun bt => some (bt.1, bt.2.1, bt.2.2)) (tabevLengthCode) (Ev.bind (f := fun _ bt => some (bt.1, bt.2.1, bt.2.2)) e1 (Ev.now _)))
    simp only [lz_LengthCode.j0]
    rw [if_neg (by simp)]
  refine Ev.congr (fun k => ?_) e3
  simp only [lz_LengthCode.f]
  rw [if_neg (by omega), decide_eq_false (by omega)]
theorem LengthCode_no (n : Int) (h : n < 3 ∨ 258 < n) : Ev (fun k => lz_LengthCode.f k n) (0, 0, 0) := by
  have e3 : Ev (fun k => lz_LengthCode.j0 k n true) (0, 0, 0) := by
    refine Ev.step (f := fun _ => some (0, 0, 0)) (fun k => ?_) (Ev.now _)
    simp only [lz_LengthCode.j0]
    rw [if_pos trivial]
  refine Ev.congr (fun k => ?_) e3
  simp only [lz_LengthCode.f]
  by_cases hc : n < 3
  · rw [if_pos hc]
  · rw [if_neg hc, decide_eq_true (by omega)]
end

section
open Go.Proofs.Ytfibhkfpnnpbpaa.PDistanceCode
def grDistanceCode (g : S59) : Gr := ⟨g.f0, g.f1, g.f2.toNat, g.f3⟩
theorem of_evDistanceCode (l : List S59) (n : Int) (hn : -1000000 ≤ n) (hn2 : n ≤ 1000000) (hl : l.length ≤ 20) (hok : ∀ g ∈ l, (grDistanceCode g).ok ∧ 0 ≤ g.f2) : Ev (fun k => lz_of.f k l n) (ofS (l.reverse.map grDistanceCode) n) := by
  have key : ∀ m : Nat, m ≤ l.length → Ev (fun k => lz_of.l0 k l n ((m : Int) - 1)) (ofS ((l.take m).reverse.map grDistanceCode) n) := by
    intro m
    induction m with
    | zero =>
      intro _
      refine Ev.step (f := fun _ => some (0, 0, 0)) (fun k => ?_) (Ev.now _)
      simp only [lz_of.l0]
      rw [if_neg (by omega)]
    | succ m ih =>
      intro hm
      have hg : l[m]? = some l[m] := List.getElem?_eq_getElem (by omega)
      obtain ⟨⟨a1, a2, a3, a4, a5, a6, a7⟩, a8⟩ := hok _ (List.getElem_mem (h := (by omega : m < l.length)))
      generalize hgl : l[m] = g at *
      simp only [grDistanceCode] at a1 a2 a3 a4 a5 a6 a7
      have hr : rd_T59 l (m : Int) = g := by simp [rd_T59, List.getD_eq_getElem?_getD, hg]
      have hx : ((((m + 1 : Nat)) : Int) - 1) = (m : Int) := by omega
      have ht : ((l.take (m + 1)).reverse.map grDistanceCode) = grDistanceCode g :: ((l.take m).reverse.map grDistanceCode) := by
        rw [List.take_succ_eq_append_getElem (by omega), hgl]
        simp
      obtain ⟨e, he⟩ := Int.eq_ofNat_of_zero_le a8
      rw [ht, hx]
      by_cases hc : n ≥ g.f1
      · rw [ofS_hit (grDistanceCode g) _ n hc]
        have he' : e < 14 := by rw [he] at a5; exact a5
        have hd := div_small (n - g.f1) e he' (by omega)
        have hs : wrap64 (g.f0 + shr .i64 (wrap64 (n - g.f1)) g.f2) = g.f0 + (n - g.f1) / 2 ^ e := by
          rw [w64 (n - g.f1) (by omega) (by omega), he, shr_eq _ _ he', w64 _ (by omega) (by omega)]
        have ha : Go.bits .and .i64 (wrap64 (n - g.f1)) (wrap64 (shl .i64 1 g.f2 - 1)) = (n - g.f1) % 2 ^ e := by
          rw [w64 (n - g.f1) (by omega) (by omega), he, and_eq _ _ he' (by omega) (by omega)]
        have hv : ((grDistanceCode g).c + (n - (grDistanceCode g).b) / 2 ^ (grDistanceCode g).e, (n - (grDistanceCode g).b) % 2 ^ (grDistanceCode g).e, ((grDistanceCode g).e : Int)) = (g.f0 + (n - g.f1) / 2 ^ e, (n - g.f1) % 2 ^ e, g.f2) := by
          simp only [grDistanceCode, he, Int.toNat_natCast]
        rw [hv]
        refine Ev.step (f := fun _ => some (g.f0 + (n - g.f1) / 2 ^ e, (n - g.f1) % 2 ^ e, g.f2)) (fun k => ?_) (Ev.now _)
        simp only [lz_of.l0]
        rw [if_pos (by omega), if_pos (by omega), if_pos (by omega), hr, if_pos hc, if_pos a8, hs, ha]
      · rw [ofS_miss (grDistanceCode g) _ n hc]
        refine Ev.step (f := fun k => lz_of.l0 k l n ((m : Int) - 1)) (fun k => ?_) (ih (by omega))
        simp only [lz_of.l0]
        rw [if_pos (by omega), if_pos (by omega), if_pos (by omega), hr, if_neg hc, w64 _ (by omega) (by omega)]
  have h := key l.length (Nat.le_refl _)
  rw [List.take_length] at h
  refine Ev.congr (fun k => ?_) h
  simp only [lz_of.f]
  rw [w64 _ (by omega) (by omega)]
def tabDistanceCode : List S59 := [⟨0, 1, 0, 4⟩, ⟨4, 5, 1, 2⟩, ⟨6, 9, 2, 2⟩, ⟨8, 17, 3, 2⟩, ⟨10, 33, 4, 2⟩, ⟨12, 65, 5, 2⟩, ⟨14, 129, 6, 2⟩, ⟨16, 257, 7, 2⟩, ⟨18, 513, 8, 2⟩, ⟨20, 1025, 9, 2⟩, ⟨22, 2049, 10, 2⟩, ⟨24, 4097, 11, 2⟩, ⟨26, 8193, 12, 2⟩, ⟨28, 16385, 13, 2⟩]
theorem tabevDistanceCode : Ev (fun k => lz_distances.f k) tabDistanceCode := Ev.of (fun k => lz_distances.mono k) (k := 15) (by kernel_rfl)
theorem DistanceCode_ev (n : Int) (h0 : 1 ≤ n) (h1 : n ≤ 32768) : Ev (fun k => lz_DistanceCode.f k n) (ofS DT.reverse n) := by
  have e1 := of_evDistanceCode tabDistanceCode n (by omega) (by omega) (by decide) (by decide +kernel)
  have e2 : tabDistanceCode.reverse.map grDistanceCode = DT.reverse := rfl
  rw [e2] at e1
  have e3 : Ev (fun k => lz_DistanceCode.j0 k n false) (ofS DT.reverse n) := by
    refine Ev.step (fun k => ?_) (Ev.bind (f := fun k t => (lz_of.f k t n).bind fun bt => some (bt.1, bt.2.1, bt.2.2)) (tabevDistanceCode) (Ev.bind (f := fun _ bt => some (bt.1, bt.2.1, bt.2.2)) e1 (Ev.now _)))
    simp only [lz_DistanceCode.j0]
    rw [if_neg (by simp)]
  refine Ev.congr (fun k => ?_) e3
  simp only [lz_DistanceCode.f]
  rw [if_neg (by omega), decide_eq_false (by omega)]
theorem DistanceCode_no (n : Int) (h : n < 1 ∨ 32768 < n) : Ev (fun k => lz_DistanceCode.f k n) (0, 0, 0) := by
  have e3 : Ev (fun k => lz_DistanceCode.j0 k n true) (0, 0, 0) := by
    refine Ev.step (f := fun _ => some (0, 0, 0)) (fun k => ?_) (Ev.now _)
    simp only [lz_DistanceCode.j0]
    rw [if_pos trivial]
  refine Ev.congr (fun k => ?_) e3
  simp only [lz_DistanceCode.f]
  by_cases hc : n < 1
  · rw [if_pos hc]
  · rw [if_neg hc, decide_eq_true (by omega)]
end

section
open Go.Proofs.Ytfibhkfpnnpbpaa.PLengthOf
def grLengthOf (g : S59) : Gr := ⟨g.f0, g.f1, g.f2.toNat, g.f3⟩
theorem base_evLengthOf (l : List S59) (c : Int) (hl : l.length ≤ 20) (hok : ∀ g ∈ l, (grLengthOf g).ok ∧ 0 ≤ g.f2) : Ev (fun k => lz_base.f k l c) (baseS (l.map grLengthOf) c) := by
  have key : ∀ d i : Nat, i + d = l.length → Ev (fun k => lz_base.l0 k c l (l.length : Int) (i : Int)) (baseS ((l.drop i).map grLengthOf) c) := by
    intro d
    induction d with
    | zero =>
      intro i hi
      rw [List.drop_of_length_le (by omega)]
      refine Ev.step (f := fun _ => some (0, 0, false)) (fun k => ?_) (Ev.now _)
      simp only [lz_base.l0]
      rw [if_neg (by omega)]
    | succ d ih =>
      intro i hi
      have hg : l[i]? = some l[i] := List.getElem?_eq_getElem (by omega)
      obtain ⟨⟨a1, a2, a3, a4, a5, a6, a7⟩, a8⟩ := hok _ (List.getElem_mem (h := (by omega : i < l.length)))
      have ht : (l.drop i).map grLengthOf = grLengthOf l[i] :: (l.drop (i + 1)).map grLengthOf := by
        rw [List.drop_eq_getElem_cons (by omega)]; rfl
      rw [ht]
      clear ht
      generalize hgl : l[i] = g at *
      simp only [grLengthOf] at a1 a2 a3 a4 a5 a6 a7
      have hr : rd_T59 l (i : Int) = g := by simp [rd_T59, List.getD_eq_getElem?_getD, hg]
      obtain ⟨e, he⟩ := Int.eq_ofNat_of_zero_le a8
      have he' : e < 14 := by rw [he] at a5; exact a5
      have hw : wrap64 (g.f0 + g.f3) = g.f0 + g.f3 := w64 _ (by omega) (by omega)
      have ih' := ih (i + 1) (by omega)
      have q1 : (i : Int) < (l.length : Int) := by omega
      have q2 : 0 ≤ (i : Int) := by omega
      have hi1 : wrap64 ((i : Int) + 1) = ((i + 1 : Nat) : Int) := by rw [w64 _ (by omega) (by omega)]; omega
      by_cases hc : c ≥ g.f0
      · by_cases hc2 : c < g.f0 + g.f3
        · rw [baseS_hit (grLengthOf g) _ c hc hc2]
          obtain ⟨p1, p2⟩ := pow_small e he'
          have hm1 := Int.mul_le_mul (show c - g.f0 ≤ 8 by omega) p1 (by omega) (by omega)
          have hm0 := Int.mul_nonneg (show 0 ≤ c - g.f0 by omega) (by omega : (0:Int) ≤ 2 ^ e)
          have hs : wrap64 (g.f1 + shl .i64 (wrap64 (c - g.f0)) g.f2) = g.f1 + (c - g.f0) * 2 ^ e := by
            rw [w64 (c - g.f0) (by omega) (by omega), he, shl_eq _ _ he' (by omega) (by omega)]
            exact sum_small _ _ (by omega) (by omega) hm0 hm1 p1
          have hv : ((grLengthOf g).b + (c - (grLengthOf g).c) * 2 ^ (grLengthOf g).e, ((grLengthOf g).e : Int), true) = (g.f1 + (c - g.f0) * 2 ^ e, g.f2, true) := by
            simp only [grLengthOf, he, Int.toNat_natCast]
          rw [hv]
          refine Ev.step (f := fun _ => some (g.f1 + (c - g.f0) * 2 ^ e, g.f2, true)) (fun k => ?_) (Ev.now _)
          simp only [lz_base.l0]
          rw [if_pos q1, if_pos q2, if_pos q1, hr, if_pos hc, hw, if_pos hc2, if_pos a8, hs]
        · rw [baseS_miss (grLengthOf g) _ c (fun h => hc2 h.2)]
          refine Ev.step (fun k => ?_) ih'
          simp only [lz_base.l0]
          rw [if_pos q1, if_pos q2, if_pos q1, hr, if_pos hc, hw, if_neg hc2, hi1]
      · rw [baseS_miss (grLengthOf g) _ c (fun h => hc h.1)]
        refine Ev.step (fun k => ?_) ih'
        simp only [lz_base.l0]
        rw [if_pos q1, if_pos q2, if_pos q1, hr, if_neg hc, hi1]
  exact Ev.congr (fun k => rfl) (key l.length 0 (by omega))
def tabLengthOf : List S59 := [⟨257, 3, 0, 8⟩, ⟨265, 11, 1, 4⟩, ⟨269, 19, 2, 4⟩, ⟨273, 35, 3, 4⟩, ⟨277, 67, 4, 4⟩, ⟨281, 131, 5, 4⟩, ⟨285, 258, 0, 1⟩]
theorem tabevLengthOf : Ev (fun _ => lz_lengths.f) tabLengthOf := Ev.now _
theorem LengthOf_ev (c : Int) : Ev (fun k => lz_LengthOf.f k c) (baseS LT c) := by
  have e1 := base_evLengthOf tabLengthOf c (by decide) (by decide +kernel)
  have e2 : tabLengthOf.map grLengthOf = LT := rfl
  rw [e2] at e1
  exact Ev.congr (fun k => rfl) (Ev.bind (f := fun k t => (lz_base.f k t c).bind fun bt => some (bt.1, bt.2.1, bt.2.2)) (tabevLengthOf) (Ev.bind (f := fun _ bt => some (bt.1, bt.2.1, bt.2.2)) e1 (Ev.now _)))
end

section
open Go.Proofs.Ytfibhkfpnnpbpaa.PDistanceOf
def grDistanceOf (g : S59) : Gr := ⟨g.f0, g.f1, g.f2.toNat, g.f3⟩
theorem base_evDistanceOf (l : List S59) (c : Int) (hl : l.length ≤ 20) (hok : ∀ g ∈ l, (grDistanceOf g).ok ∧ 0 ≤ g.f2) : Ev (fun k => lz_base.f k l c) (baseS (l.map grDistanceOf) c) := by
  have key : ∀ d i : Nat, i + d = l.length → Ev (fun k => lz_base.l0 k c l (l.length : Int) (i : Int)) (baseS ((l.drop i).map grDistanceOf) c) := by
    intro d
    induction d with
    | zero =>
      intro i hi
      rw [List.drop_of_length_le (by omega)]
      refine Ev.step (f := fun _ => some (0, 0, false)) (fun k => ?_) (Ev.now _)
      simp only [lz_base.l0]
      rw [if_neg (by omega)]
    | succ d ih =>
      intro i hi
      have hg : l[i]? = some l[i] := List.getElem?_eq_getElem (by omega)
      obtain ⟨⟨a1, a2, a3, a4, a5, a6, a7⟩, a8⟩ := hok _ (List.getElem_mem (h := (by omega : i < l.length)))
      have ht : (l.drop i).map grDistanceOf = grDistanceOf l[i] :: (l.drop (i + 1)).map grDistanceOf := by
        rw [List.drop_eq_getElem_cons (by omega)]; rfl
      rw [ht]
      clear ht
      generalize hgl : l[i] = g at *
      simp only [grDistanceOf] at a1 a2 a3 a4 a5 a6 a7
      have hr : rd_T59 l (i : Int) = g := by simp [rd_T59, List.getD_eq_getElem?_getD, hg]
      obtain ⟨e, he⟩ := Int.eq_ofNat_of_zero_le a8
      have he' : e < 14 := by rw [he] at a5; exact a5
      have hw : wrap64 (g.f0 + g.f3) = g.f0 + g.f3 := w64 _ (by omega) (by omega)
      have ih' := ih (i + 1) (by omega)
      have q1 : (i : Int) < (l.length : Int) := by omega
      have q2 : 0 ≤ (i : Int) := by omega
      have hi1 : wrap64 ((i : Int) + 1) = ((i + 1 : Nat) : Int) := by rw [w64 _ (by omega) (by omega)]; omega
      by_cases hc : c ≥ g.f0
      · by_cases hc2 : c < g.f0 + g.f3
        · rw [baseS_hit (grDistanceOf g) _ c hc hc2]
          obtain ⟨p1, p2⟩ := pow_small e he'
          have hm1 := Int.mul_le_mul (show c - g.f0 ≤ 8 by omega) p1 (by omega) (by omega)
          have hm0 := Int.mul_nonneg (show 0 ≤ c - g.f0 by omega) (by omega : (0:Int) ≤ 2 ^ e)
          have hs : wrap64 (g.f1 + shl .i64 (wrap64 (c - g.f0)) g.f2) = g.f1 + (c - g.f0) * 2 ^ e := by
            rw [w64 (c - g.f0) (by omega) (by omega), he, shl_eq _ _ he' (by omega) (by omega)]
            exact sum_small _ _ (by omega) (by omega) hm0 hm1 p1
          have hv : ((grDistanceOf g).b + (c - (grDistanceOf g).c) * 2 ^ (grDistanceOf g).e, ((grDistanceOf g).e : Int), true) = (g.f1 + (c - g.f0) * 2 ^ e, g.f2, true) := by
            simp only [grDistanceOf, he, Int.toNat_natCast]
          rw [hv]
          refine Ev.step (f := fun _ => some (g.f1 + (c - g.f0) * 2 ^ e, g.f2, true)) (fun k => ?_) (Ev.now _)
          simp only [lz_base.l0]
          rw [if_pos q1, if_pos q2, if_pos q1, hr, if_pos hc, hw, if_pos hc2, if_pos a8, hs]
        · rw [baseS_miss (grDistanceOf g) _ c (fun h => hc2 h.2)]
          refine Ev.step (fun k => ?_) ih'
          simp only [lz_base.l0]
          rw [if_pos q1, if_pos q2, if_pos q1, hr, if_pos hc, hw, if_neg hc2, hi1]
      · rw [baseS_miss (grDistanceOf g) _ c (fun h => hc h.1)]
        refine Ev.step (fun k => ?_) ih'
        simp only [lz_base.l0]
        rw [if_pos q1, if_pos q2, if_pos q1, hr, if_neg hc, hi1]
  exact Ev.congr (fun k => rfl) (key l.length 0 (by omega))
def tabDistanceOf : List S59 := [⟨0, 1, 0, 4⟩, ⟨4, 5, 1, 2⟩, ⟨6, 9, 2, 2⟩, ⟨8, 17, 3, 2⟩, ⟨10, 33, 4, 2⟩, ⟨12, 65, 5, 2⟩, ⟨14, 129, 6, 2⟩, ⟨16, 257, 7, 2⟩, ⟨18, 513, 8, 2⟩, ⟨20, 1025, 9, 2⟩, ⟨22, 2049, 10, 2⟩, ⟨24, 4097, 11, 2⟩, ⟨26, 8193, 12, 2⟩, ⟨28, 16385, 13, 2⟩]
theorem tabevDistanceOf : Ev (fun k => lz_distances.f k) tabDistanceOf := Ev.of (fun k => lz_distances.mono k) (k := 15) (by kernel_rfl)
theorem DistanceOf_ev (c : Int) : Ev (fun k => lz_DistanceOf.f k c) (baseS DT c) := by
  have e1 := base_evDistanceOf tabDistanceOf c (by decide) (by decide +kernel)
  have e2 : tabDistanceOf.map grDistanceOf = DT := rfl
  rw [e2] at e1
  exact Ev.congr (fun k => rfl) (Ev.bind (f := fun k t => (lz_base.f k t c).bind fun bt => some (bt.1, bt.2.1, bt.2.2)) (tabevDistanceOf) (Ev.bind (f := fun _ bt => some (bt.1, bt.2.1, bt.2.2)) e1 (Ev.now _)))
end

end Go.Proofs.Ytfibhkfpnnpbpaa.Codes
