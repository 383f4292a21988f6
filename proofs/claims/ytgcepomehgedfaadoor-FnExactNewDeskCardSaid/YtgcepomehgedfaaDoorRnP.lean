/- A net read from a text: plain. -/
import Derived.Test.YtgcepomehgedfaaDoorSplit
import Derived.Test.YtgcepomehgedfaaDoorDec
import Derived.Test.YtgcepomehgedfaaDoorVdN
import Derived.Lib.CutLaws
set_option linter.unusedVariables false
set_option linter.unusedSimpArgs false
namespace Go.Proofs.YtgcepomehgedfaaDoor
open Go.RowKit Go.Lib

theorem itoa_has {n : Int} {c : UInt8} (h : c ∈ itoa n) : isDig c = true ∨ c = 45 := by
  unfold itoa at h
  split at h
  · rw [List.mem_cons] at h
    rcases h with rfl | h
    · exact .inr rfl
    · exact .inl (List.all_eq_true.1 (decDigits_dig _) _ h)
  · exact .inl (List.all_eq_true.1 (decDigits_dig _) _ h)
theorem itoa_no (n : Int) {c : UInt8} (h : isDig c = false) (h2 : c ≠ 45) : c ∉ itoa n := fun hm => by
  rcases itoa_has hm with h3 | h3
  · rw [h] at h3; cases h3
  · exact h2 h3
theorem no32 (n : Int) : (32 : UInt8) ∉ itoa n := itoa_no n (by decide) (by decide)
theorem no58 (n : Int) : (58 : UInt8) ∉ itoa n := itoa_no n (by decide) (by decide)
theorem no62 (n : Int) : (62 : UInt8) ∉ itoa n := itoa_no n (by decide) (by decide)
theorem no42 (n : Int) : (42 : UInt8) ∉ itoa n := itoa_no n (by decide) (by decide)
theorem splitL_joinL (c : UInt8) : ∀ (l : List (List UInt8)), l ≠ [] → (∀ x ∈ l, c ∉ x) → splitL c (joinL c l) = l
  | [x], _, h => by rw [joinL, splitL_none (h x (by simp))]
  | x :: y :: r, _, h => by rw [joinL, splitL_hit (h x (by simp)), splitL_joinL c (y :: r) (by simp) (fun z hz => h z (List.mem_cons_of_mem _ hz))]
def tbL (t : Tb) : List UInt8 := itoa t.from_ ++ 62 :: (itoa t.to_ ++ 42 :: itoa t.len)
def ntL (n : Nt) : List UInt8 := joinL 32 ((itoa n.sta ++ [58]) :: n.tubes.map tbL)
def ntT (n : Nt) : List UInt8 := if okNt n = true then ntL n else []
theorem ntL_ne (n : Nt) : ntL n ≠ [] := by
  unfold ntL
  cases n.tubes.map tbL <;> simp [joinL]
theorem tbL_no (t : Tb) : (32 : UInt8) ∉ tbL t := by
  simp only [tbL, List.mem_append, List.mem_cons, not_or]
  exact ⟨no32 _, by decide, no32 _, by decide, no32 _⟩
theorem ntL_words (n : Nt) : splitL 32 (ntL n) = (itoa n.sta ++ [58]) :: n.tubes.map tbL := by
  refine splitL_joinL 32 _ (by simp) (fun x hx => ?_)
  rw [List.mem_cons, List.mem_map] at hx
  rcases hx with rfl | ⟨t, _, rfl⟩
  · simp only [List.mem_append, not_or]
    exact ⟨no32 _, by decide⟩
  · exact tbL_no t
/-- Numbers that are small. -/
def smallI (n : Int) : Prop := -1000000000000000000 < n ∧ n < 1000000000000000000
theorem readN_itoa {n : Int} (h : smallI n) : isDec (itoa n) = true ∧ (readN (itoa n)).1 = n := by
  have := isDec_itoa h.1 h.2
  rw [readN_yes this.1]
  exact this
theorem okTb_small {s : Int} {t : Tb} (hs : s ≤ 10) (h : okTb s t = true) : smallI t.from_ ∧ smallI t.to_ ∧ smallI t.len := by
  simp only [okTb, Bool.and_eq_true, inR_true] at h
  unfold smallI
  omega
theorem okNt_small {n : Nt} (h : okNt n = true) : smallI n.sta ∧ n.tubes.length ≤ 24 ∧ ∀ t ∈ n.tubes, smallI t.from_ ∧ smallI t.to_ ∧ smallI t.len := by
  simp only [okNt, Bool.and_eq_true, inR_true, decide_eq_true_eq] at h
  refine ⟨by unfold smallI; omega, h.2.1, fun t ht => okTb_small h.1.2 (List.all_eq_true.1 h.2.2 t ht)⟩

/-- A tube as the reference reads it. -/
def tbR (w : List UInt8) : Option (List UInt8 × List UInt8 × List UInt8) := match splitL 62 w with
  | [a, r] => match splitL 42 r with
    | [b, c] => some (a, b, c)
    | _ => none
  | _ => none
def tb3 (x : List UInt8 × List UInt8 × List UInt8) : Tb := ⟨(readN x.1).1, (readN x.2.1).1, (readN x.2.2).1⟩
def ok3 (ok : Bool) (x : List UInt8 × List UInt8 × List UInt8) : Bool := ok && isDec x.1 && isDec x.2.1 && isDec x.2.2
def tbsR : List (List UInt8) → Bool → List Tb → Option (Bool × List Tb)
  | [], ok, acc => some (ok, acc)
  | w :: r, ok, acc => match tbR w with
    | some x => tbsR r (ok3 ok x) (acc ++ [tb3 x])
    | none => none
def headR (h : List UInt8) : Option (List UInt8) := match splitL 58 h with
  | [x, []] => some x
  | _ => none
def netF (s : List UInt8) : Option Nt := match splitL 32 s with
  | [] => none
  | h :: r => match headR h with
    | none => none
    | some x => match tbsR r (isDec x) [] with
      | none => none
      | some (ok, l) => if (ok && okNt ⟨(readN x).1, l⟩) = true then some ⟨(readN x).1, l⟩ else none
/-- A tube as the program reads it: parts cut. -/
def tbI (w : List UInt8) : List UInt8 × List UInt8 × List UInt8 := ((cut w [62]).1, (cut (cut w [62]).2.1 [42]).1, (cut (cut w [62]).2.1 [42]).2.1)
def tbsI : List (List UInt8) → Bool → List Tb → Bool × List Tb
  | [], ok, acc => (ok, acc)
  | w :: r, ok, acc => tbsI r (ok3 ok (tbI w)) (acc ++ [tb3 (tbI w)])
def headI (h : List UInt8) : List UInt8 := trimSuffix h [58]
def netI (ws : List (List UInt8)) (s : List UInt8) : Option Nt := match ws with
  | [] => none
  | h :: r => match tbsI r (isDec (headI h)) [] with
    | (ok, l) => if ok = true then (if ntT ⟨(readN (headI h)).1, l⟩ = s then some ⟨(readN (headI h)).1, l⟩ else none) else none
theorem cut_at {c : UInt8} {a r : List UInt8} (h : c ∉ a) : cut (a ++ c :: r) [c] = (a, r, true) := by
  have hi : index (a ++ c :: r) [c] = a.length := by
    rcases index_one c (a ++ c :: r) with ⟨h1, h2⟩ | ⟨x, y, e, hx, h1⟩
    · exact absurd (by simp) h2
    · rw [h1]
      have : splitL c (a ++ c :: r) = a :: splitL c r := splitL_hit h
      have h3 : splitL c (a ++ c :: r) = x :: splitL c y := by rw [e]; exact splitL_hit hx
      rw [this] at h3
      injection h3 with h3 _
      rw [h3]
  unfold cut
  rw [hi]
  simp
theorem ok3_true {ok : Bool} {x : List UInt8 × List UInt8 × List UInt8} : ok3 ok x = true ↔ ok = true ∧ isDec x.1 = true ∧ isDec x.2.1 = true ∧ isDec x.2.2 = true := by simp [ok3, and_assoc]
/-- What the reference reads out of the words of a text. -/
theorem tbsR_some : ∀ (r : List (List UInt8)) (ok : Bool) (acc l : List Tb), tbsR r ok acc = some (true, l) → ok = true ∧ ∃ ts, l = acc ++ ts ∧ r = ts.map tbL
  | [], ok, acc, l, h => by
    simp only [tbsR, Option.some.injEq, Prod.mk.injEq] at h
    exact ⟨h.1, [], by simp [h.2], rfl⟩
  | w :: r, ok, acc, l, h => by
    unfold tbsR at h
    cases hw : tbR w with
    | none => rw [hw] at h; cases h
    | some x =>
      rw [hw] at h
      obtain ⟨h1, ts, h2, h3⟩ := tbsR_some r _ _ _ h
      obtain ⟨h4, d1, d2, d3⟩ := ok3_true.1 h1
      refine ⟨h4, tb3 x :: ts, by rw [h2]; simp, ?_⟩
      rw [List.map_cons, ← h3]
      congr 1
      have j1 := joinL_splitL 62 w
      unfold tbR at hw
      split at hw
      · rename_i a t ea
        split at hw
        · rename_i b c eb
          injection hw with hw
          subst hw
          have j2 := joinL_splitL 42 t
          rw [ea] at j1
          rw [eb] at j2
          simp only [joinL] at j1 j2
          simp only [tbL, tb3, readN_yes d1, readN_yes d2, readN_yes d3]
          rw [itoa_numS d1, itoa_numS d2, itoa_numS d3, j2, j1]
        · cases hw
      · cases hw
theorem tbR_tbL (t : Tb) : tbR (tbL t) = some (itoa t.from_, itoa t.to_, itoa t.len) := by
  have h1 : splitL 62 (tbL t) = [itoa t.from_, itoa t.to_ ++ 42 :: itoa t.len] := by
    unfold tbL
    rw [splitL_hit (no62 _), splitL_none]
    simp only [List.mem_append, List.mem_cons, not_or]
    exact ⟨no62 _, by decide, no62 _⟩
  have h2 : splitL 42 (itoa t.to_ ++ 42 :: itoa t.len) = [itoa t.to_, itoa t.len] := by rw [splitL_hit (no42 _), splitL_none (no42 _)]
  simp [tbR, h1, h2]
theorem tbI_tbL (t : Tb) : tbI (tbL t) = (itoa t.from_, itoa t.to_, itoa t.len) := by
  unfold tbI tbL
  rw [cut_at (no62 _)]
  simp only
  rw [cut_at (no42 _)]
theorem step3 {t : Tb} {ok : Bool} (h : smallI t.from_ ∧ smallI t.to_ ∧ smallI t.len) : ok3 ok (itoa t.from_, itoa t.to_, itoa t.len) = ok ∧ tb3 (itoa t.from_, itoa t.to_, itoa t.len) = t := by
  have h1 := readN_itoa h.1
  have h2 := readN_itoa h.2.1
  have h3 := readN_itoa h.2.2
  simp [ok3, tb3, h1, h2, h3]
theorem tbsR_map : ∀ (ts : List Tb) (ok : Bool) (acc : List Tb), (∀ t ∈ ts, smallI t.from_ ∧ smallI t.to_ ∧ smallI t.len) → tbsR (ts.map tbL) ok acc = some (ok, acc ++ ts)
  | [], ok, acc, _ => by simp [tbsR]
  | t :: r, ok, acc, h => by
    have hs := step3 (ok := ok) (h t (by simp))
    rw [List.map_cons, tbsR, tbR_tbL]
    simp only
    rw [hs.1, hs.2, tbsR_map r ok (acc ++ [t]) (fun x hx => h x (List.mem_cons_of_mem _ hx))]
    simp
theorem tbsI_map : ∀ (ts : List Tb) (ok : Bool) (acc : List Tb), (∀ t ∈ ts, smallI t.from_ ∧ smallI t.to_ ∧ smallI t.len) → tbsI (ts.map tbL) ok acc = (ok, acc ++ ts)
  | [], ok, acc, _ => by simp [tbsI]
  | t :: r, ok, acc, h => by
    have hs := step3 (ok := ok) (h t (by simp))
    rw [List.map_cons, tbsI, tbI_tbL, hs.1, hs.2, tbsI_map r ok (acc ++ [t]) (fun x hx => h x (List.mem_cons_of_mem _ hx))]
    simp
/-- The text of a valid net reads as that net. -/
theorem netF_text {n : Nt} (h : okNt n = true) : netF (ntL n) = some n := by
  obtain ⟨h1, h2, h3⟩ := okNt_small h
  have hr := readN_itoa h1
  have hh : headR (itoa n.sta ++ [58]) = some (itoa n.sta) := by
    unfold headR
    rw [splitL_hit (no58 _), splitL_none (by simp)]
  unfold netF
  rw [ntL_words]
  simp only [hh]
  rw [tbsR_map n.tubes _ [] h3, hr.1, hr.2]
  simp [h]
/-- A text that reads as a net is that net's text. -/
theorem netF_some {s : List UInt8} {n : Nt} (h : netF s = some n) : okNt n = true ∧ s = ntL n := by
  have j := joinL_splitL 32 s
  unfold netF at h
  split at h
  · cases h
  · rename_i a r e
    split at h
    · cases h
    · rename_i x ex
      split at h
      · cases h
      · rename_i ok l el
        split at h
        · rename_i hc
          injection h with h
          subst h
          rw [Bool.and_eq_true] at hc
          refine ⟨hc.2, ?_⟩
          rw [hc.1] at el
          obtain ⟨hd, ts, rfl, rfl⟩ := tbsR_some _ _ _ _ el
          rw [← j, e, ntL, readN_yes hd]
          simp only [List.nil_append]
          rw [itoa_numS hd]
          congr 2
          have j2 := joinL_splitL 58 a
          unfold headR at ex
          split at ex
          · rename_i x' e2
            injection ex with ex
            subst ex
            rw [← j2, e2]
            rfl
          · cases ex
        · cases h
theorem headI_text (n : Int) : headI (itoa n ++ [58]) = itoa n := by
  simp [headI, trimSuffix, hasSuffix]
theorem netI_text {n : Nt} (h : okNt n = true) : netI ((itoa n.sta ++ [58]) :: n.tubes.map tbL) (ntL n) = some n := by
  obtain ⟨h1, h2, h3⟩ := okNt_small h
  have hr := readN_itoa h1
  unfold netI
  simp only
  rw [headI_text, tbsI_map n.tubes _ [] h3, hr.1, hr.2]
  simp [ntT, h]
/-- The program reads what the reference reads. -/
theorem netI_eq (ws : List (List UInt8)) (s : List UInt8) (hne : s.count 32 ≤ 24 → ws = splitL 32 s) : netI ws s = netF s := by
  cases hf : netF s with
  | some n =>
    obtain ⟨ho, rfl⟩ := netF_some hf
    have hc : (ntL n).count 32 ≤ 24 := by
      have := splitL_len 32 (ntL n)
      rw [ntL_words] at this
      simp only [List.length_cons, List.length_map] at this
      have := (okNt_small ho).2.1
      omega
    rw [hne hc, ntL_words]
    exact netI_text ho
  | none =>
    cases hi : netI ws s with
    | none => rfl
    | some n =>
      exfalso
      have h1 : ntT n = s := by
        unfold netI at hi
        split at hi
        · cases hi
        · split at hi
          rename_i ok l e
          split at hi
          · split at hi
            · rename_i h2
              injection hi with hi
              rw [← hi]; exact h2
            · cases hi
          · cases hi
      unfold ntT at h1
      split at h1
      · rename_i ho
        rw [← h1, netF_text ho] at hf
        cases hf
      · subst h1
        rw [hne (by simp)] at hi
        cases hi
end Go.Proofs.YtgcepomehgedfaaDoor
