/- The earliest start of a run: plain. What the program's jumps and the reference's candidates come to. A net read from a text: plain. Runs tested by the reference. The fewest stuck switches that explain trials: plain. What is read of a log: the plain law. -/
import Derived.Test.YtjalgpioklcbfaaGreatDoorMgConsoleAE
import Derived.Test.YtjalgpioklcbfaaGreatDoorMgConsoleAA
import Derived.Test.YtjalgpioklcbfaaGreatDoorKDec
import Derived.Lib.CutLaws
import Derived.Test.YtjalgpioklcbfaaGreatDoorMgConsoleAD
set_option linter.unusedVariables false
set_option linter.unusedSimpArgs false
namespace Go.Proofs.YtjalgpioklcbfaaGreatDoor
open Go.RowKit

/-- When a run is in a tube. -/
structure Sp where
  tube : Int
  enter : Int
  leave : Int
def at0 (l : List Int) (i : Int) : Int := l.getD i.toNat 0
def spans (ts : List Int) : List Int → Int → List Sp
  | [], _ => []
  | t :: r, a => ⟨t, a, a + at0 ts t⟩ :: spans ts r (a + at0 ts t)
def meetB (s o : Sp) : Bool := s.tube == o.tube && (decide (s.enter < o.leave) && decide (o.enter < s.leave))
theorem meetB_true {s o : Sp} : meetB s o = true ↔ s.tube = o.tube ∧ s.enter < o.leave ∧ o.enter < s.leave := by simp [meetB]
def taken (ts : List Int) : List Rn → List Sp
  | [] => []
  | r :: rs => spans ts r.way r.st ++ taken ts rs
def waitL (s : Sp) : List Sp → Int → Int
  | [], x => x
  | o :: r, x => waitL s r (if meetB s o then max x (o.leave - s.enter) else x)
def waitA (tk : List Sp) : List Sp → Int → Int
  | [], x => x
  | s :: r, x => waitA tk r (waitL s tk x)
def fits (ts : List Int) (rs : List Rn) (way : List Int) (a : Int) : Bool := (spans ts way a).all fun s => (taken ts rs).all fun o => !meetB s o
/-- The least tick from one on at which a run meets none. -/
def IsE (p : Int → Bool) (a x : Int) : Prop := a ≤ x ∧ p x = true ∧ ∀ y, a ≤ y → y < x → p y = false
theorem IsE.uniq {p : Int → Bool} {a x y : Int} (h : IsE p a x) (k : IsE p a y) : x = y := by
  obtain ⟨h1, h2, h3⟩ := h
  obtain ⟨k1, k2, k3⟩ := k
  by_cases hlt : x < y
  · have := k3 x h1 hlt
    rw [h2] at this; cases this
  · by_cases hgt : y < x
    · have := h3 y k1 hgt
      rw [k2] at this; cases this
    · omega
theorem isE_exists {p : Int → Bool} : ∀ (n : Nat) (a : Int), p (a + n) = true → ∃ x, IsE p a x ∧ x ≤ a + n
  | 0, a, h => ⟨a, ⟨Int.le_refl _, by simpa using h, fun y h1 h2 => by omega⟩, by omega⟩
  | n + 1, a, h => by
    rcases ha : p a with _ | _
    · obtain ⟨x, ⟨h1, h2, h3⟩, hx⟩ := isE_exists n (a + 1) (by rw [show a + 1 + (n : Int) = a + ((n + 1 : Nat) : Int) by omega]; exact h)
      exact ⟨x, ⟨by omega, h2, fun y k1 k2 => by
        by_cases hy : y = a
        · rw [hy]; exact ha
        · exact h3 y (by omega) k2⟩, by omega⟩
    · exact ⟨a, ⟨Int.le_refl _, ha, fun y h1 h2 => by omega⟩, by omega⟩
theorem waitL_le (s : Sp) : ∀ (l : List Sp) (x : Int), x ≤ waitL s l x
  | [], x => Int.le_refl _
  | o :: r, x => by
    unfold waitL
    split
    · exact Int.le_trans (Int.le_max_left _ _) (waitL_le s r _)
    · exact waitL_le s r _
theorem waitL_of (s : Sp) : ∀ (l : List Sp) (x : Int), waitL s l x = x ∨ ∃ o ∈ l, meetB s o = true ∧ waitL s l x = o.leave - s.enter
  | [], x => .inl rfl
  | o :: r, x => by
    unfold waitL
    split
    · rename_i hm
      rcases waitL_of s r (max x (o.leave - s.enter)) with h | ⟨q, hq, h1, h2⟩
      · rw [h]
        by_cases hle : o.leave - s.enter ≤ x
        · exact .inl (Int.max_eq_left hle)
        · exact .inr ⟨o, List.mem_cons_self, hm, Int.max_eq_right (by omega)⟩
      · exact .inr ⟨q, List.mem_cons_of_mem _ hq, h1, h2⟩
    · rcases waitL_of s r x with h | ⟨q, hq, h1, h2⟩
      · exact .inl h
      · exact .inr ⟨q, List.mem_cons_of_mem _ hq, h1, h2⟩
theorem waitL_meet (s : Sp) : ∀ (l : List Sp) (x : Int) (o : Sp), o ∈ l → meetB s o = true → o.leave - s.enter ≤ waitL s l x
  | q :: r, x, o, ho, hm => by
    unfold waitL
    rcases List.mem_cons.1 ho with rfl | ho
    · rw [if_pos hm]
      exact Int.le_trans (Int.le_max_right _ _) (waitL_le s r _)
    · exact waitL_meet s r _ o ho hm
theorem waitA_le (tk : List Sp) : ∀ (l : List Sp) (x : Int), x ≤ waitA tk l x
  | [], x => Int.le_refl _
  | s :: r, x => Int.le_trans (waitL_le s tk x) (waitA_le tk r _)
theorem waitA_of (tk : List Sp) : ∀ (l : List Sp) (x : Int), waitA tk l x = x ∨ ∃ s ∈ l, ∃ o ∈ tk, meetB s o = true ∧ waitA tk l x = o.leave - s.enter
  | [], x => .inl rfl
  | s :: r, x => by
    unfold waitA
    rcases waitA_of tk r (waitL s tk x) with h | ⟨q, hq, o, ho, h1, h2⟩
    · rcases waitL_of s tk x with k | ⟨o, ho, k1, k2⟩
      · exact .inl (h.trans k)
      · exact .inr ⟨s, List.mem_cons_self, o, ho, k1, h.trans k2⟩
    · exact .inr ⟨q, List.mem_cons_of_mem _ hq, o, ho, h1, h2⟩
theorem waitA_meet (tk : List Sp) : ∀ (l : List Sp) (x : Int) (s o : Sp), s ∈ l → o ∈ tk → meetB s o = true → o.leave - s.enter ≤ waitA tk l x
  | q :: r, x, s, o, hs, ho, hm => by
    unfold waitA
    rcases List.mem_cons.1 hs with rfl | hs
    · exact Int.le_trans (waitL_meet s tk x o ho hm) (waitA_le tk r _)
    · exact waitA_meet tk r _ s o hs ho hm
theorem spans_shift (ts : List Int) : ∀ (way : List Int) (a d : Int) (s : Sp), s ∈ spans ts way a → (⟨s.tube, s.enter + d, s.leave + d⟩ : Sp) ∈ spans ts way (a + d)
  | t :: r, a, d, s, h => by
    unfold spans at h ⊢
    rcases List.mem_cons.1 h with rfl | h
    · exact List.mem_cons.2 (.inl (by simp; omega))
    · have := spans_shift ts r _ d s h
      rw [show a + at0 ts t + d = a + d + at0 ts t by omega] at this
      exact List.mem_cons_of_mem _ this
theorem fits_false {ts : List Int} {rs : List Rn} {way : List Int} {a : Int} {s o : Sp} (hs : s ∈ spans ts way a) (ho : o ∈ taken ts rs) (hm : meetB s o = true) : fits ts rs way a = false := by
  rcases h : fits ts rs way a with _ | _
  · rfl
  · have := List.all_eq_true.1 (List.all_eq_true.1 h s hs) o ho
    rw [hm] at this; cases this
theorem fits_not {ts : List Int} {rs : List Rn} {way : List Int} {a : Int} (h : fits ts rs way a = false) : ∃ s ∈ spans ts way a, ∃ o ∈ taken ts rs, meetB s o = true := by
  obtain ⟨s, hs, h1⟩ := List.all_eq_false.1 h
  rcases h2 : (taken ts rs).all (fun o => !meetB s o) with _ | _
  · obtain ⟨o, ho, h3⟩ := List.all_eq_false.1 h2
    exact ⟨s, hs, o, ho, by simpa using h3⟩
  · exact absurd h2 h1
theorem wait_fits {ts : List Int} {rs : List Rn} {way : List Int} {a : Int} (h : waitA (taken ts rs) (spans ts way a) 0 = 0) : fits ts rs way a = true := by
  rcases hf : fits ts rs way a with _ | _
  · obtain ⟨s, hs, o, ho, hm⟩ := fits_not hf
    have := waitA_meet _ _ 0 s o hs ho hm
    have := (meetB_true.1 hm)
    omega
  · rfl
theorem wait_jump {ts : List Int} {rs : List Rn} {way : List Int} {a : Int} (h : waitA (taken ts rs) (spans ts way a) 0 ≠ 0) : ∀ y, a ≤ y → y < a + waitA (taken ts rs) (spans ts way a) 0 → fits ts rs way y = false := by
  intro y h1 h2
  rcases waitA_of (taken ts rs) (spans ts way a) 0 with k | ⟨s, hs, o, ho, hm, hw⟩
  · exact absurd k h
  · have hm' := meetB_true.1 hm
    have := spans_shift ts way a (y - a) s hs
    rw [show a + (y - a) = y by omega] at this
    exact fits_false this ho (meetB_true.2 ⟨hm'.1, by show s.enter + (y - a) < o.leave; omega, by show o.enter < s.leave + (y - a); omega⟩)
/-- All numbers in order: the tubes are there, the times are from 1 to 1000. -/
theorem at0_bd {ts : List Int} (h : okTimes ts = true) (t : Int) (h0 : 0 ≤ t) (h1 : t ≤ (ts.length : Int) - 1) : 1 ≤ at0 ts t ∧ at0 ts t ≤ 1000 := by
  unfold okTimes at h
  simp only [Bool.and_eq_true, List.all_eq_true] at h
  have hl : t.toNat < ts.length := by omega
  have := inR_true.1 (h.2 ts[t.toNat] (List.getElem_mem hl))
  have e : at0 ts t = ts[t.toNat] := by unfold at0; rw [List.getD_eq_getElem?_getD, List.getElem?_eq_getElem hl]; rfl
  rw [e]; exact this
theorem spans_bd {ts : List Int} (h : okTimes ts = true) : ∀ (way : List Int) (a : Int), (∀ t ∈ way, 0 ≤ t ∧ t ≤ (ts.length : Int) - 1) → ∀ s ∈ spans ts way a, a ≤ s.enter ∧ s.enter < s.leave ∧ s.leave ≤ a + 1000 * way.length ∧ s.leave ≤ s.enter + 1000
  | t :: r, a, hw, s, hs => by
    unfold spans at hs
    have hb := at0_bd h t (hw t List.mem_cons_self).1 (hw t List.mem_cons_self).2
    rcases List.mem_cons.1 hs with rfl | hs
    · simp only [List.length_cons]; omega
    · have := spans_bd h r _ (fun t ht => hw t (List.mem_cons_of_mem _ ht)) s hs
      simp only [List.length_cons]; omega
theorem okWay_mem {ts way : List Int} (h : okWay ts way = true) : way.length ≤ 12 ∧ 1 ≤ way.length ∧ ∀ t ∈ way, 0 ≤ t ∧ t ≤ (ts.length : Int) - 1 := by
  unfold okWay at h
  simp only [Bool.and_eq_true, List.all_eq_true] at h
  have := inR_true.1 h.1
  exact ⟨by omega, by omega, fun t ht => inR_true.1 (h.2 t ht)⟩
theorem taken_mem {ts : List Int} : ∀ {rs : List Rn} {o : Sp}, o ∈ taken ts rs → ∃ r ∈ rs, o ∈ spans ts r.way r.st
  | r :: rs, o, h => by
    unfold taken at h
    rcases List.mem_append.1 h with h | h
    · exact ⟨r, List.mem_cons_self, h⟩
    · obtain ⟨q, hq, h⟩ := taken_mem h
      exact ⟨q, List.mem_cons_of_mem _ hq, h⟩
theorem taken_bd {ts : List Int} {rs : List Rn} (h : okRuns ts rs = true) {o : Sp} (ho : o ∈ taken ts rs) : 0 ≤ o.enter ∧ o.enter < o.leave ∧ o.leave ≤ 112000 := by
  unfold okRuns at h
  simp only [Bool.and_eq_true, List.all_eq_true] at h
  obtain ⟨r, hr, ho⟩ := taken_mem ho
  have hk := h.2.2 r hr
  unfold okRun at hk
  simp only [Bool.and_eq_true] at hk
  obtain ⟨w1, w2, w3⟩ := okWay_mem hk.1
  have := inR_true.1 hk.2
  have := spans_bd h.1 r.way r.st w3 o ho
  omega
theorem okRuns_times {ts : List Int} {rs : List Rn} (h : okRuns ts rs = true) : okTimes ts = true := by
  unfold okRuns at h
  simp only [Bool.and_eq_true] at h
  exact h.1
theorem meet_bd {ts : List Int} {rs : List Rn} {way : List Int} {a : Int} (h : okRuns ts rs = true) (hw : okWay ts way = true) {s o : Sp} (hs : s ∈ spans ts way a) (ho : o ∈ taken ts rs) (hm : meetB s o = true) : a < 112000 ∧ a ≤ s.enter ∧ o.leave ≤ 112000 := by
  have h1 := taken_bd h ho
  have h2 := spans_bd (okRuns_times h) way a (okWay_mem hw).2.2 s hs
  have := meetB_true.1 hm
  omega
theorem earl_exists {ts : List Int} {rs : List Rn} {way : List Int} (h : okRuns ts rs = true) (hw : okWay ts way = true) (a : Int) : ∃ x, IsE (fits ts rs way) a x := by
  rcases hf : fits ts rs way (a + ((112000 - a).toNat : Nat)) with _ | _
  · obtain ⟨s, hs, o, ho, hm⟩ := fits_not hf
    have := meet_bd h hw hs ho hm
    omega
  · obtain ⟨x, hx, _⟩ := isE_exists _ a hf
    exact ⟨x, hx⟩
noncomputable def earl (ts : List Int) (rs : List Rn) (way : List Int) (a : Int) : Int := open Classical in if h : ∃ x, IsE (fits ts rs way) a x then Classical.choose h else -1
theorem earl_is {ts : List Int} {rs : List Rn} {way : List Int} (h : okRuns ts rs = true) (hw : okWay ts way = true) (a : Int) : IsE (fits ts rs way) a (earl ts rs way a) := by
  unfold earl
  have h := earl_exists h hw a
  rw [dif_pos h]
  exact Classical.choose_spec h
noncomputable def earlF (ts : List Int) (rs : List Rn) (way : List Int) (a : Int) : Int × Int :=
  if okRuns ts rs = false then (0, 1) else if (okWay ts way && inR a 0 100000) = false then (0, 2) else if 100000 < earl ts rs way a then (0, 5) else (earl ts rs way a, 0)
/-- Whether no run is in a tube at some ticks. -/
def inTube (ts : List Int) (rs : List Rn) (tube : Int) : List Sp := (taken ts rs).filter fun s => s.tube == tube
def freeF (ts : List Int) (rs : List Rn) (tube from_ to_ : Int) : Bool × Int :=
  if okRuns ts rs = false then (false, 1) else if inR tube 0 ((ts.length : Int) - 1) = false then (false, 2) else if (inR from_ 0 100000 && inR to_ from_ 200000) = false then (false, 2)
  else (!(inTube ts rs tube).any (fun s => decide (max s.enter from_ < min s.leave to_)), 0)
end Go.Proofs.YtjalgpioklcbfaaGreatDoor
namespace Go.Proofs.YtjalgpioklcbfaaGreatDoor
open Go.RowKit Go.Lib

theorem itoa_has {n : Int} {c : UInt8} (h : c ∈ itoa n) : isDig c = true ∨ c = 45 := by
  unfold itoa at h
  split at h
  · rw [List.mem_cons] at h
    rcases h with rfl | h
    · exact .inr rfl
    · exact .inl (List.all_eq_true.1 (decDigits_dig _) _ h)
  · exact .inl (List.all_eq_true.1 (decDigits_dig _) _ h)
theorem itoa_no (n : Int) {c : UInt8} (h : isDig c = false) (h2 : c ≠ 45) : c ∉ itoa n := fun hm => by
  rcases itoa_has hm with h3 | h3
  · rw [h] at h3; cases h3
  · exact h2 h3
theorem no32 (n : Int) : (32 : UInt8) ∉ itoa n := itoa_no n (by decide) (by decide)
theorem no58 (n : Int) : (58 : UInt8) ∉ itoa n := itoa_no n (by decide) (by decide)
theorem no62 (n : Int) : (62 : UInt8) ∉ itoa n := itoa_no n (by decide) (by decide)
theorem no42 (n : Int) : (42 : UInt8) ∉ itoa n := itoa_no n (by decide) (by decide)
theorem splitL_joinL (c : UInt8) : ∀ (l : List (List UInt8)), l ≠ [] → (∀ x ∈ l, c ∉ x) → splitL c (joinL c l) = l
  | [x], _, h => by rw [joinL, splitL_none (h x (by simp))]
  | x :: y :: r, _, h => by rw [joinL, splitL_hit (h x (by simp)), splitL_joinL c (y :: r) (by simp) (fun z hz => h z (List.mem_cons_of_mem _ hz))]
def tbL (t : Tb) : List UInt8 := itoa t.from_ ++ 62 :: (itoa t.to_ ++ 42 :: itoa t.len)
def ntL (n : Nt) : List UInt8 := joinL 32 ((itoa n.sta ++ [58]) :: n.tubes.map tbL)
def ntT (n : Nt) : List UInt8 := if okNt n = true then ntL n else []
theorem tbL_no (t : Tb) : (32 : UInt8) ∉ tbL t := by
  simp only [tbL, List.mem_append, List.mem_cons, not_or]
  exact ⟨no32 _, by decide, no32 _, by decide, no32 _⟩
theorem ntL_words (n : Nt) : splitL 32 (ntL n) = (itoa n.sta ++ [58]) :: n.tubes.map tbL := by
  refine splitL_joinL 32 _ (by simp) (fun x hx => ?_)
  rw [List.mem_cons, List.mem_map] at hx
  rcases hx with rfl | ⟨t, _, rfl⟩
  · simp only [List.mem_append, not_or]
    exact ⟨no32 _, by decide⟩
  · exact tbL_no t
/-- Numbers that are small. -/
def smallI (n : Int) : Prop := -1000000000000000000 < n ∧ n < 1000000000000000000
theorem readN_itoa {n : Int} (h : smallI n) : isDec (itoa n) = true ∧ (readN (itoa n)).1 = n := by
  have := isDec_itoa h.1 h.2
  rw [readN_yes this.1]
  exact this
theorem okTb_small {s : Int} {t : Tb} (hs : s ≤ 10) (h : okTb s t = true) : smallI t.from_ ∧ smallI t.to_ ∧ smallI t.len := by
  simp only [okTb, Bool.and_eq_true, inR_true] at h
  unfold smallI
  omega
theorem okNt_small {n : Nt} (h : okNt n = true) : smallI n.sta ∧ n.tubes.length ≤ 24 ∧ ∀ t ∈ n.tubes, smallI t.from_ ∧ smallI t.to_ ∧ smallI t.len := by
  simp only [okNt, Bool.and_eq_true, inR_true, decide_eq_true_eq] at h
  refine ⟨by unfold smallI; omega, h.2.1, fun t ht => okTb_small h.1.2 (List.all_eq_true.1 h.2.2 t ht)⟩

/-- A tube as the reference reads it. -/
def tbR (w : List UInt8) : Option (List UInt8 × List UInt8 × List UInt8) := match splitL 62 w with
  | [a, r] => match splitL 42 r with
    | [b, c] => some (a, b, c)
    | _ => none
  | _ => none
def tb3 (x : List UInt8 × List UInt8 × List UInt8) : Tb := ⟨(readN x.1).1, (readN x.2.1).1, (readN x.2.2).1⟩
def ok3 (ok : Bool) (x : List UInt8 × List UInt8 × List UInt8) : Bool := ok && isDec x.1 && isDec x.2.1 && isDec x.2.2
def tbsR : List (List UInt8) → Bool → List Tb → Option (Bool × List Tb)
  | [], ok, acc => some (ok, acc)
  | w :: r, ok, acc => match tbR w with
    | some x => tbsR r (ok3 ok x) (acc ++ [tb3 x])
    | none => none
def headR (h : List UInt8) : Option (List UInt8) := match splitL 58 h with
  | [x, []] => some x
  | _ => none
def netF (s : List UInt8) : Option Nt := match splitL 32 s with
  | [] => none
  | h :: r => match headR h with
    | none => none
    | some x => match tbsR r (isDec x) [] with
      | none => none
      | some (ok, l) => if (ok && okNt ⟨(readN x).1, l⟩) = true then some ⟨(readN x).1, l⟩ else none
/-- A tube as the program reads it: parts cut. -/
def tbI (w : List UInt8) : List UInt8 × List UInt8 × List UInt8 := ((cut w [62]).1, (cut (cut w [62]).2.1 [42]).1, (cut (cut w [62]).2.1 [42]).2.1)
def tbsI : List (List UInt8) → Bool → List Tb → Bool × List Tb
  | [], ok, acc => (ok, acc)
  | w :: r, ok, acc => tbsI r (ok3 ok (tbI w)) (acc ++ [tb3 (tbI w)])
def headI (h : List UInt8) : List UInt8 := trimSuffix h [58]
def netI (ws : List (List UInt8)) (s : List UInt8) : Option Nt := match ws with
  | [] => none
  | h :: r => match tbsI r (isDec (headI h)) [] with
    | (ok, l) => if ok = true then (if ntT ⟨(readN (headI h)).1, l⟩ = s then some ⟨(readN (headI h)).1, l⟩ else none) else none
theorem cut_at {c : UInt8} {a r : List UInt8} (h : c ∉ a) : cut (a ++ c :: r) [c] = (a, r, true) := by
  have hi : index (a ++ c :: r) [c] = a.length := by
    rcases index_one c (a ++ c :: r) with ⟨h1, h2⟩ | ⟨x, y, e, hx, h1⟩
    · exact absurd (by simp) h2
    · rw [h1]
      have : splitL c (a ++ c :: r) = a :: splitL c r := splitL_hit h
      have h3 : splitL c (a ++ c :: r) = x :: splitL c y := by rw [e]; exact splitL_hit hx
      rw [this] at h3
      injection h3 with h3 _
      rw [h3]
  unfold cut
  rw [hi]
  simp
theorem ok3_true {ok : Bool} {x : List UInt8 × List UInt8 × List UInt8} : ok3 ok x = true ↔ ok = true ∧ isDec x.1 = true ∧ isDec x.2.1 = true ∧ isDec x.2.2 = true := by simp [ok3, and_assoc]
/-- What the reference reads out of the words of a text. -/
theorem tbsR_some : ∀ (r : List (List UInt8)) (ok : Bool) (acc l : List Tb), tbsR r ok acc = some (true, l) → ok = true ∧ ∃ ts, l = acc ++ ts ∧ r = ts.map tbL
  | [], ok, acc, l, h => by
    simp only [tbsR, Option.some.injEq, Prod.mk.injEq] at h
    exact ⟨h.1, [], by simp [h.2], rfl⟩
  | w :: r, ok, acc, l, h => by
    unfold tbsR at h
    cases hw : tbR w with
    | none => rw [hw] at h; cases h
    | some x =>
      rw [hw] at h
      obtain ⟨h1, ts, h2, h3⟩ := tbsR_some r _ _ _ h
      obtain ⟨h4, d1, d2, d3⟩ := ok3_true.1 h1
      refine ⟨h4, tb3 x :: ts, by rw [h2]; simp, ?_⟩
      rw [List.map_cons, ← h3]
      congr 1
      have j1 := joinL_splitL 62 w
      unfold tbR at hw
      split at hw
      · rename_i a t ea
        split at hw
        · rename_i b c eb
          injection hw with hw
          subst hw
          have j2 := joinL_splitL 42 t
          rw [ea] at j1
          rw [eb] at j2
          simp only [joinL] at j1 j2
          simp only [tbL, tb3, readN_yes d1, readN_yes d2, readN_yes d3]
          rw [itoa_numS d1, itoa_numS d2, itoa_numS d3, j2, j1]
        · cases hw
      · cases hw
theorem tbR_tbL (t : Tb) : tbR (tbL t) = some (itoa t.from_, itoa t.to_, itoa t.len) := by
  have h1 : splitL 62 (tbL t) = [itoa t.from_, itoa t.to_ ++ 42 :: itoa t.len] := by
    unfold tbL
    rw [splitL_hit (no62 _), splitL_none]
    simp only [List.mem_append, List.mem_cons, not_or]
    exact ⟨no62 _, by decide, no62 _⟩
  have h2 : splitL 42 (itoa t.to_ ++ 42 :: itoa t.len) = [itoa t.to_, itoa t.len] := by rw [splitL_hit (no42 _), splitL_none (no42 _)]
  simp [tbR, h1, h2]
theorem tbI_tbL (t : Tb) : tbI (tbL t) = (itoa t.from_, itoa t.to_, itoa t.len) := by
  unfold tbI tbL
  rw [cut_at (no62 _)]
  simp only
  rw [cut_at (no42 _)]
theorem step3 {t : Tb} {ok : Bool} (h : smallI t.from_ ∧ smallI t.to_ ∧ smallI t.len) : ok3 ok (itoa t.from_, itoa t.to_, itoa t.len) = ok ∧ tb3 (itoa t.from_, itoa t.to_, itoa t.len) = t := by
  have h1 := readN_itoa h.1
  have h2 := readN_itoa h.2.1
  have h3 := readN_itoa h.2.2
  simp [ok3, tb3, h1, h2, h3]
theorem tbsR_map : ∀ (ts : List Tb) (ok : Bool) (acc : List Tb), (∀ t ∈ ts, smallI t.from_ ∧ smallI t.to_ ∧ smallI t.len) → tbsR (ts.map tbL) ok acc = some (ok, acc ++ ts)
  | [], ok, acc, _ => by simp [tbsR]
  | t :: r, ok, acc, h => by
    have hs := step3 (ok := ok) (h t (by simp))
    rw [List.map_cons, tbsR, tbR_tbL]
    simp only
    rw [hs.1, hs.2, tbsR_map r ok (acc ++ [t]) (fun x hx => h x (List.mem_cons_of_mem _ hx))]
    simp
theorem tbsI_map : ∀ (ts : List Tb) (ok : Bool) (acc : List Tb), (∀ t ∈ ts, smallI t.from_ ∧ smallI t.to_ ∧ smallI t.len) → tbsI (ts.map tbL) ok acc = (ok, acc ++ ts)
  | [], ok, acc, _ => by simp [tbsI]
  | t :: r, ok, acc, h => by
    have hs := step3 (ok := ok) (h t (by simp))
    rw [List.map_cons, tbsI, tbI_tbL, hs.1, hs.2, tbsI_map r ok (acc ++ [t]) (fun x hx => h x (List.mem_cons_of_mem _ hx))]
    simp
/-- The text of a valid net reads as that net. -/
theorem netF_text {n : Nt} (h : okNt n = true) : netF (ntL n) = some n := by
  obtain ⟨h1, h2, h3⟩ := okNt_small h
  have hr := readN_itoa h1
  have hh : headR (itoa n.sta ++ [58]) = some (itoa n.sta) := by
    unfold headR
    rw [splitL_hit (no58 _), splitL_none (by simp)]
  unfold netF
  rw [ntL_words]
  simp only [hh]
  rw [tbsR_map n.tubes _ [] h3, hr.1, hr.2]
  simp [h]
/-- A text that reads as a net is that net's text. -/
theorem netF_some {s : List UInt8} {n : Nt} (h : netF s = some n) : okNt n = true ∧ s = ntL n := by
  have j := joinL_splitL 32 s
  unfold netF at h
  split at h
  · cases h
  · rename_i a r e
    split at h
    · cases h
    · rename_i x ex
      split at h
      · cases h
      · rename_i ok l el
        split at h
        · rename_i hc
          injection h with h
          subst h
          rw [Bool.and_eq_true] at hc
          refine ⟨hc.2, ?_⟩
          rw [hc.1] at el
          obtain ⟨hd, ts, rfl, rfl⟩ := tbsR_some _ _ _ _ el
          rw [← j, e, ntL, readN_yes hd]
          simp only [List.nil_append]
          rw [itoa_numS hd]
          congr 2
          have j2 := joinL_splitL 58 a
          unfold headR at ex
          split at ex
          · rename_i x' e2
            injection ex with ex
            subst ex
            rw [← j2, e2]
            rfl
          · cases ex
        · cases h
theorem headI_text (n : Int) : headI (itoa n ++ [58]) = itoa n := by
  simp [headI, trimSuffix, hasSuffix]
theorem netI_text {n : Nt} (h : okNt n = true) : netI ((itoa n.sta ++ [58]) :: n.tubes.map tbL) (ntL n) = some n := by
  obtain ⟨h1, h2, h3⟩ := okNt_small h
  have hr := readN_itoa h1
  unfold netI
  simp only
  rw [headI_text, tbsI_map n.tubes _ [] h3, hr.1, hr.2]
  simp [ntT, h]
/-- The program reads what the reference reads. -/
theorem netI_eq (ws : List (List UInt8)) (s : List UInt8) (hne : s.count 32 ≤ 24 → ws = splitL 32 s) : netI ws s = netF s := by
  cases hf : netF s with
  | some n =>
    obtain ⟨ho, rfl⟩ := netF_some hf
    have hc : (ntL n).count 32 ≤ 24 := by
      have := splitL_len 32 (ntL n)
      rw [ntL_words] at this
      simp only [List.length_cons, List.length_map] at this
      have := (okNt_small ho).2.1
      omega
    rw [hne hc, ntL_words]
    exact netI_text ho
  | none =>
    cases hi : netI ws s with
    | none => rfl
    | some n =>
      exfalso
      have h1 : ntT n = s := by
        unfold netI at hi
        split at hi
        · cases hi
        · split at hi
          rename_i ok l e
          split at hi
          · split at hi
            · rename_i h2
              injection hi with hi
              rw [← hi]; exact h2
            · cases hi
          · cases hi
      unfold ntT at h1
      split at h1
      · rename_i ho
        rw [← h1, netF_text ho] at hf
        cases hf
      · subst h1
        rw [hne (by simp)] at hi
        cases hi
end Go.Proofs.YtjalgpioklcbfaaGreatDoor
namespace Go.Proofs.YtjalgpioklcbfaaGreatDoor
open Go.RowKit

set_option maxHeartbeats 2000000 in
theorem l06Ok_any (P : Option Addr) (m d B : Nat) (ts : List Int) (A : Option Addr) (n c : Nat) (rs : List Rn) (w : World) (ht : Reads w B 1 P m (ints ts)) (h : RunsR w B A n rs) (hm : m ≤ 1048576) (hn : n ≤ 1048576) (hsm : SmallR rs) :
    Calls Tryz.prog 98 #[.slice P m d, .slice A n c] w fun e w' => e = .returned (.bool (okRuns ts rs)) ∧ w = w' := by
  have HL := Lib.hid h.len
  have HM := Lib.hid (ints_len ht)
  have HT := Lib.hid ht
  have HSM := Lib.hid hsm
  clear ht hsm
  go_enter Tryz.func98, Tryz.ntmps98
  go_wp2
  go_loop [5] (fun i => ∃ k : Nat, k ≤ n ∧ i = .int .i64 k ∧ AllTo (okRun ts) rs k) (fun i => n - (RowKit.intOf i).toNat)
  case atStart => exact ⟨0, Nat.zero_le _, rfl, AllTo.zero _ _⟩
  case round =>
    obtain ⟨k, hk, rfl, hall⟩ := hrel
    have HA := Lib.hid hall
    clear hall
    by_cases hlt : k < n
    · obtain ⟨x, b, off, P', m', d', he, rfl, hb, c0, c1, hr, hm'⟩ := run_at h hlt
      have hm2 : m' ≤ 1048576 := by have := HSM.out k x he; have := ints_len hr; omega
      have HE := Lib.hid he
      have HR := Lib.hid hr
      clear he h hr
      go_wp2_with fail
      refine (l06Way_any P m d ts hm HM.out P' m' d' B x.way w HR.out hm2).mono ?_
      rintro e w1 ⟨rfl, rfl⟩
      rcases e1 : okWay ts x.way with _ | _
      · have HF := Lib.hid (show okRuns ts rs = false by simp only [okRuns, all_bad (p := okRun ts) HE.out (by simp [okRun, e1]), Bool.and_false])
        go_wp2
        go_ret
        exact ⟨ret_bool HF.out.symm, rfl⟩
      go_wp2_with fail
      refine (l06Start_any _ _).mono ?_
      rintro e w1 ⟨rfl, rfl⟩
      rcases e2 : inR x.st 0 100000 with _ | _
      · have HF := Lib.hid (show okRuns ts rs = false by simp only [okRuns, all_bad (p := okRun ts) HE.out (by simp [okRun, e2]), Bool.and_false])
        go_wp2
        go_ret
        exact ⟨ret_bool HF.out.symm, rfl⟩
      have HG := Lib.hid (show okRun ts x = true by simp [okRun, e1, e2])
      go_wp2
      go_round
      case rel => exact ⟨k + 1, by omega, by go_num, HA.out.step HE.out HG.out⟩
      case measure => simp [RowKit.intOf]; omega
    · obtain rfl : k = n := by omega
      go_wp2_with fail
      refine (l06Times_any P m d B ts w HT.out hm).mono ?_
      rintro e w1 ⟨rfl, rfl⟩
      rcases e1 : okTimes ts with _ | _
      · have HF := Lib.hid (show okRuns ts rs = false by simp only [okRuns, e1, Bool.false_and])
        go_wp2
        go_ret
        exact ⟨ret_bool HF.out.symm, rfl⟩
      have HF := Lib.hid (show okRuns ts rs = decide ((k : Int) ≤ 12) by simp only [okRuns, e1, HL.out, HA.out.done HL.out, Bool.and_true, Bool.true_and]; rw [decide_eq_decide]; omega)
      go_wp2
      go_ret
      exact ⟨ret_bool HF.out.symm, rfl⟩
end Go.Proofs.YtjalgpioklcbfaaGreatDoor
namespace Go.Proofs.YtjalgpioklcbfaaGreatDoor
open Go.RowKit

/-- What trials tell of a switch: the sides to which it led, and those to which it did so against the address. -/
structure Sn where
  l0 : Bool
  l1 : Bool
  a0 : Bool
  a1 : Bool
def sn0 : Sn := ⟨false, false, false, false⟩
def snUp (s : Sn) (side : Int) (w : Bool) : Sn := if side = 0 then ⟨true, s.l1, s.a0 || w, s.a1⟩ else ⟨s.l0, true, s.a0, s.a1 || w⟩
def clash (s : Sn) : Bool := (s.a0 || s.a1) && s.l0 && s.l1
/-- The switches that are stuck, from the i-th one on. -/
def outI : List Sn → Nat → List (Int × Int)
  | [], _ => []
  | s :: r, i => (if s.a0 = true then [((i : Int), 0)] else if s.a1 = true then [((i : Int), 1)] else []) ++ outI r (i + 1)
def updAt (l : List Sn) (v : Int) (side : Int) (w : Bool) : List Sn := l.set v.toNat (snUp (l.getD v.toNat sn0) side w)
/-- The node at the k-th step. -/
def nodeF (dg : Nat → Int) : Nat → Int
  | 0 => 1
  | k + 1 => 2 * nodeF dg k + dg k
theorem nodeF_bd {dg : Nat → Int} (h : ∀ k, 0 ≤ dg k ∧ dg k ≤ 1) : ∀ k : Nat, (2 : Int) ^ k ≤ nodeF dg k ∧ nodeF dg k < 2 ^ (k + 1)
  | 0 => by simp [nodeF]
  | k + 1 => by
    have ih := nodeF_bd h k
    have hd := h k
    have e1 : (2 : Int) ^ (k + 1) = 2 * 2 ^ k := by rw [Int.pow_succ]; omega
    have e2 : (2 : Int) ^ (k + 1 + 1) = 2 * 2 ^ (k + 1) := by rw [Int.pow_succ]; omega
    rw [e2]
    show 2 ^ (k + 1) ≤ 2 * nodeF dg k + dg k ∧ 2 * nodeF dg k + dg k < 2 * 2 ^ (k + 1)
    omega
theorem updAt_len (l : List Sn) (v side : Int) (w : Bool) : (updAt l v side w).length = l.length := by simp [updAt]
end Go.Proofs.YtjalgpioklcbfaaGreatDoor
namespace Go.Proofs.YtjalgpioklcbfaaGreatDoor
open Go.RowKit Go.Lib

/-- The entry and the stamp of four words. -/
def wordsF (a b c d : ByteArray) : Option (En × Int) :=
  if (isDec a.data.toList && isDec c.data.toList && isDec d.data.toList && okEn ⟨numS a.data.toList, b, numS c.data.toList⟩) = true then some (⟨numS a.data.toList, b, numS c.data.toList⟩, numS d.data.toList) else none
/-- The entry and the stamp of a line. -/
def lineF (line : ByteArray) : Option (En × Int) := match splitS 32 line with
  | [a, b, c, d] => wordsF a b c d
  | _ => none
theorem lineF_four {line a b c d : ByteArray} (h : splitS 32 line = [a, b, c, d]) : lineF line = wordsF a b c d := by simp [lineF, h]
theorem lineF_other {line : ByteArray} (h : (splitS 32 line).length ≠ 4) : lineF line = none := by
  unfold lineF
  split
  · rename_i e; rw [e] at h; simp at h
  · rfl
theorem four_of {α : Type} {l : List α} (h : l.length = 4) : ∃ a b c d, l = [a, b, c, d] := by
  match l, h with
  | [a, b, c, d], _ => exact ⟨a, b, c, d, rfl⟩
theorem wordsF_yes {a b c d : ByteArray} (h1 : isDec a.data.toList = true) (h2 : isDec c.data.toList = true) (h3 : isDec d.data.toList = true) (h4 : okEn ⟨numS a.data.toList, b, numS c.data.toList⟩ = true) :
    wordsF a b c d = some (⟨numS a.data.toList, b, numS c.data.toList⟩, numS d.data.toList) := by simp [wordsF, h1, h2, h3, h4]
theorem wordsF_no1 {a b c d : ByteArray} (h : isDec a.data.toList = false) : wordsF a b c d = none := by simp [wordsF, h]
theorem wordsF_no2 {a b c d : ByteArray} (h : isDec c.data.toList = false) : wordsF a b c d = none := by simp [wordsF, h]
theorem wordsF_no3 {a b c d : ByteArray} (h : isDec d.data.toList = false) : wordsF a b c d = none := by simp [wordsF, h]
theorem wordsF_no4 {a b c d : ByteArray} (h : okEn ⟨numS a.data.toList, b, numS c.data.toList⟩ = false) : wordsF a b c d = none := by simp [wordsF, h]

structure LogR where
  list : List En
  stamp : Int
  at_ : Nat
def dayR (l : List En) : Int := match l.getLast? with
  | none => 0
  | some x => x.day
def stepF (r : LogR) (line : ByteArray) : Option LogR := match lineF line with
  | none => none
  | some (e, st) => if (decide (dayR r.list ≤ e.day) && (stampW r.stamp (wordsB e) == st)) = true then some ⟨r.list ++ [e], st, r.at_ + line.size + 1⟩ else none
def logGo : List ByteArray → LogR → LogR
  | [], r => r
  | [_], r => r
  | l :: m :: t, r => match stepF r l with
    | none => r
    | some r' => logGo (m :: t) r'
def logR (s : ByteArray) : LogR := logGo (splitS 10 s) ⟨[], 0, 0⟩
theorem splitS_ne (c : UInt8) (s : ByteArray) : splitS c s ≠ [] := by
  intro h
  have := splitS_len c s
  rw [h] at this
  cases this
theorem logGo_miss {s : ByteArray} {r : LogR} (h : (10 : UInt8) ∉ s.data.toList) : logGo (splitS 10 s) r = r := by
  rw [split_end h]; rfl
/-- The same, the text given by its parts. -/
theorem logGo_cut {s a : ByteArray} {t : List UInt8} {r : LogR} (he : s.data.toList = a.data.toList ++ 10 :: t) (hn : (10 : UInt8) ∉ a.data.toList) :
    logGo (splitS 10 s) r = match stepF r a with
      | none => r
      | some r' => logGo (splitS 10 (asBytes t)) r' := by
  have e : splitS 10 s = a :: splitS 10 (asBytes t) := by
    unfold splitS
    rw [he, splitL_hit hn, List.map_cons, asBytes_data, data_asBytes]
  rw [e]
  rcases h : splitS 10 (asBytes t) with _ | ⟨m, t'⟩
  · exact absurd h (splitS_ne _ _)
  · rfl
theorem rest_cut {s a : ByteArray} {j : Nat} {t : List UInt8} (hj : j ≤ s.size) (he : (s.extract j s.size).data.toList = a.data.toList ++ 10 :: t) : asBytes t = s.extract (j + a.size + 1) s.size ∧ j + a.size + 1 ≤ s.size := by
  have hl := data_len s
  have ha := data_len a
  rw [extract_to_end] at he
  have h1 := congrArg List.length he
  simp only [List.length_drop, List.length_append, List.length_cons] at h1
  refine ⟨?_, by omega⟩
  rw [← asBytes_data (s.extract (j + a.size + 1) s.size), extract_to_end]
  congr 1
  rw [show j + a.size + 1 = j + (a.size + 1) by omega, ← List.drop_drop, he, ← ha, ← List.drop_drop, List.drop_left]
  rfl
theorem stepF_none {r : LogR} {line : ByteArray} (h : lineF line = none) : stepF r line = none := by simp [stepF, h]
theorem stepF_day {r : LogR} {line : ByteArray} {e : En} {st : Int} (h : lineF line = some (e, st)) (h2 : ¬ (dayR r.list ≤ e.day)) : stepF r line = none := by simp [stepF, h, h2]
theorem stepF_stamp {r : LogR} {line : ByteArray} {e : En} {st : Int} (h : lineF line = some (e, st)) (h2 : stampW r.stamp (wordsB e) ≠ st) : stepF r line = none := by simp [stepF, h, h2]
theorem stepF_yes {r : LogR} {line : ByteArray} {e : En} {st : Int} (h : lineF line = some (e, st)) (h1 : dayR r.list ≤ e.day) (h2 : stampW r.stamp (wordsB e) = st) : stepF r line = some ⟨r.list ++ [e], st, r.at_ + line.size + 1⟩ := by simp [stepF, h, h1, h2]

theorem okEn_bd {x : En} (h : okEn x = true) : 0 ≤ x.day ∧ x.day ≤ 100000 ∧ isName x.what = true ∧ -1000000 ≤ x.val ∧ x.val ≤ 1000000 := by
  simp only [okEn, Bool.and_eq_true] at h
  have h1 := inR_true.1 h.1.1
  have h2 := inR_true.1 h.2
  exact ⟨h1.1, h1.2, h.1.2, h2.1, h2.2⟩
theorem okEn_what {x : En} (h : okEn x = true) : x.what.size ≤ 12 := by
  have := (okEn_bd h).2.2.1
  simp only [isName, Bool.and_eq_true, decide_eq_true_eq] at this
  omega
theorem okEn_good {x : En} (h : okEn x = true) : x.good := by
  have h1 := okEn_bd h
  have h2 := okEn_what h
  exact ⟨⟨by omega, by omega⟩, by omega, ⟨by omega, by omega⟩⟩
theorem okEn_small {x : En} (h : okEn x = true) : x.small := by
  have h2 := okEn_what h
  unfold En.small
  omega
theorem lineF_ok {line : ByteArray} {e : En} {st : Int} (h : lineF line = some (e, st)) : okEn e = true := by
  unfold lineF at h
  split at h
  · unfold wordsF at h
    split at h
    · rename_i h2
      simp only [Bool.and_eq_true] at h2
      injection h with h
      injection h with h h'
      subst h
      exact h2.2
    · cases h
  · cases h
theorem lineF_bd {line : ByteArray} {e : En} {st : Int} (h : lineF line = some (e, st)) : e.good ∧ e.small := ⟨okEn_good (lineF_ok h), okEn_small (lineF_ok h)⟩
theorem dayR_nil : dayR [] = 0 := rfl
theorem dayR_last {l : List En} {x : En} (h : l[l.length - 1]? = some x) : dayR l = x.day := by
  have h2 : l.getLast? = some x := by rw [List.getLast?_eq_getElem?]; exact h
  simp [dayR, h2]
/-- What holds of whatever has been read. -/
structure LogR.ok (r : LogR) : Prop where
  ok : ∀ x ∈ r.list, okEn x = true
  stamp0 : 0 ≤ r.stamp
  stamp1 : r.stamp ≤ 65518
  len : r.list.length ≤ r.at_
theorem LogR.ok_start : (⟨[], 0, 0⟩ : LogR).ok := ⟨fun x hx => by simp at hx, by simp, by simp, by simp⟩
theorem LogR.ok_step {r r' : LogR} {line : ByteArray} (h : r.ok) (hs : stepF r line = some r') : r'.ok ∧ r'.at_ = r.at_ + line.size + 1 ∧ ∃ e, r'.list = r.list ++ [e] ∧ okEn e = true := by
  rcases hl : lineF line with _ | ⟨e, st⟩
  · rw [stepF_none hl] at hs; cases hs
  · by_cases h1 : dayR r.list ≤ e.day
    · by_cases h2 : stampW r.stamp (wordsB e) = st
      · rw [stepF_yes hl h1 h2] at hs
        injection hs with hs
        subst hs
        have he := lineF_ok hl
        have hb := stampW_bd r.stamp (wordsB e)
        refine ⟨⟨fun x hx => ?_, by rw [← h2]; exact hb.1, by rw [← h2]; exact hb.2, ?_⟩, rfl, e, rfl, he⟩
        · rcases List.mem_append.1 hx with hx | hx
          · exact h.ok x hx
          · rw [List.mem_singleton] at hx; subst hx; exact he
        · have := h.len
          simp only [List.length_append, List.length_singleton]
          omega
      · rw [stepF_stamp hl h2] at hs; cases hs
    · rw [stepF_day hl h1] at hs; cases hs
theorem logGo_ok : ∀ (l : List ByteArray) (r : LogR), r.ok → (logGo l r).ok
  | [], r, h => h
  | [_], r, h => h
  | a :: m :: t, r, h => by
    rw [logGo]
    rcases hs : stepF r a with _ | r'
    · exact h
    · exact logGo_ok (m :: t) r' (LogR.ok_step h hs).1
theorem logR_ok (s : ByteArray) : (logR s).ok := logGo_ok _ _ LogR.ok_start
def piecesLen : List ByteArray → Nat
  | [] => 0
  | [x] => x.size
  | x :: y :: t => x.size + 1 + piecesLen (y :: t)
theorem piecesLen_split (c : UInt8) : ∀ l : List UInt8, piecesLen ((splitL c l).map asBytes) = l.length
  | [] => rfl
  | x :: r => by
    have ih := piecesLen_split c r
    rw [splitL]
    by_cases h : x = c
    · subst h
      rw [if_pos rfl]
      have hne := splitL_ne x r
      revert ih hne
      cases splitL x r with
      | nil => intro _ hne; exact absurd rfl hne
      | cons y t =>
        intro ih _
        rw [List.map_cons] at ih
        rw [List.map_cons, List.map_cons, piecesLen, ih, asBytes_size, List.length_cons]
        simp; omega
    · rw [if_neg h]
      have hne := splitL_ne c r
      revert ih hne
      cases splitL c r with
      | nil => intro _ hne; exact absurd rfl hne
      | cons y t =>
        intro ih _
        cases t with
        | nil =>
          simp only [List.map_cons, List.map_nil, piecesLen, asBytes_size] at ih ⊢
          simp [ih]
        | cons z u =>
          simp only [List.map_cons, piecesLen, asBytes_size, List.length_cons] at ih ⊢
          omega
theorem logGo_at : ∀ (l : List ByteArray) (r : LogR), (logGo l r).at_ ≤ r.at_ + piecesLen l
  | [], r => by simp [logGo, piecesLen]
  | [_], r => by simp [logGo]
  | a :: m :: t, r => by
    rw [logGo, piecesLen]
    rcases hs : stepF r a with _ | r'
    · simp only; omega
    · have h2 : r'.at_ = r.at_ + a.size + 1 := by
        rcases hl : lineF a with _ | ⟨e, st⟩
        · rw [stepF_none hl] at hs; cases hs
        · by_cases h1 : dayR r.list ≤ e.day
          · by_cases h2 : stampW r.stamp (wordsB e) = st
            · rw [stepF_yes hl h1 h2] at hs
              injection hs with hs
              subst hs
              rfl
            · rw [stepF_stamp hl h2] at hs; cases hs
          · rw [stepF_day hl h1] at hs; cases hs
      have := logGo_at (m :: t) r'
      simp only
      omega
theorem logR_at (s : ByteArray) : (logR s).at_ ≤ s.size := by
  have h := logGo_at (splitS 10 s) ⟨[], 0, 0⟩
  have h2 := piecesLen_split 10 s.data.toList
  unfold splitS at h
  rw [h2, data_len] at h
  unfold logR splitS
  simpa using h
/-- The text of a line with its newline. -/
def lineB (st : Int) (e : En) : ByteArray := wordsB e ++ ⟨#[32]⟩ ++ asBytes (itoa st) ++ ⟨#[10]⟩
theorem data_app (a b : ByteArray) : (a ++ b).data.toList = a.data.toList ++ b.data.toList := by simp
theorem lineB_data (st : Int) (e : En) : (lineB st e).data.toList = itoa e.day ++ 32 :: (e.what.data.toList ++ 32 :: (itoa e.val ++ 32 :: (itoa st ++ [10]))) := by
  simp [lineB, wordsB, data_asBytes]
theorem bytes_ext {a b : ByteArray} (h : a.data.toList = b.data.toList) : a = b := by
  rw [← asBytes_data a, h, asBytes_data]
theorem four_data {line a b c d : ByteArray} (h : splitS 32 line = [a, b, c, d]) : line.data.toList = a.data.toList ++ 32 :: (b.data.toList ++ 32 :: (c.data.toList ++ 32 :: d.data.toList)) := by
  have h2 : splitL 32 line.data.toList = [a.data.toList, b.data.toList, c.data.toList, d.data.toList] := by
    have h3 := congrArg (List.map (fun x : ByteArray => x.data.toList)) h
    simp only [splitS, List.map_map, List.map_cons, List.map_nil] at h3
    rw [← h3]
    conv => lhs; rw [← List.map_id (splitL 32 line.data.toList)]
    congr 1
  have := joinL_splitL 32 line.data.toList
  rw [h2] at this
  rw [← this]
  rfl
/-- A line is the text of its entry and its stamp: just where its fourth word is the stamp's decimal form. -/
theorem line_text {line a b c d : ByteArray} {st : Int} (h : splitS 32 line = [a, b, c, d]) (h1 : isDec a.data.toList = true) (h2 : isDec c.data.toList = true) (hs0 : 0 ≤ st) (hs1 : st ≤ 65518) :
    (lineB st ⟨numS a.data.toList, b, numS c.data.toList⟩ = line ++ ⟨#[10]⟩) ↔ (isDec d.data.toList = true ∧ numS d.data.toList = st) := by
  have e1 : (lineB st ⟨numS a.data.toList, b, numS c.data.toList⟩).data.toList = a.data.toList ++ 32 :: (b.data.toList ++ 32 :: (c.data.toList ++ 32 :: (itoa st ++ [10]))) := by
    rw [lineB_data]; simp only [itoa_numS h1, itoa_numS h2]
  have e2 : (line ++ (⟨#[10]⟩ : ByteArray)).data.toList = a.data.toList ++ 32 :: (b.data.toList ++ 32 :: (c.data.toList ++ 32 :: (d.data.toList ++ [10]))) := by
    rw [data_app, four_data h]; simp
  constructor
  · intro hh
    have e3 := congrArg (fun x : ByteArray => x.data.toList) hh
    rw [e1, e2] at e3
    have e4 : itoa st = d.data.toList := by simpa using e3
    have := isDec_itoa (n := st) (by omega) (by omega)
    rw [e4] at this
    exact this
  · rintro ⟨h3, h4⟩
    apply bytes_ext
    rw [e1, e2, ← h4, itoa_numS h3]
theorem wordsB_small {e : En} (h : okEn e = true) : (wordsB e).size ≤ 60 := by
  have h1 := okEn_good h
  have h2 := okEn_what h
  have g1 := itoa_len h1.1.1 h1.1.2
  have g2 := itoa_len h1.2.2.1 h1.2.2.2
  rw [wordsB_size]
  omega
end Go.Proofs.YtjalgpioklcbfaaGreatDoor
