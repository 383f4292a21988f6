/- What a command leaves: a valid desk, one line or more, all of it small: plain. -/
import Derived.Test.YtjalgpioklcbfaaGreatDoorKExG
import Derived.Test.YtjalgpioklcbfaaGreatDoorKExI
import Derived.Test.YtjalgpioklcbfaaGreatDoorMgConsoleAH
set_option linter.unusedVariables false
set_option linter.unusedSimpArgs false
namespace Go.Proofs.YtjalgpioklcbfaaGreatDoor
open Go.RowKit Go.Lib

theorem stepF_at {r r' : LogR} {a : ByteArray} (hs : stepF r a = some r') : r'.at_ = r.at_ + a.size + 1 := by
  unfold stepF at hs
  split at hs
  · cases hs
  · split at hs
    · injection hs with hs
      subst hs
      rfl
    · cases hs
theorem logGo_app (t : List UInt8) : ∀ (n : Nat) (L : List UInt8) (r : LogR), L.length ≤ n → (logGo (splitS 10 (asBytes L)) r).at_ = r.at_ + L.length → logGo (splitS 10 (asBytes (L ++ t))) r = logGo (splitS 10 (asBytes t)) (logGo (splitS 10 (asBytes L)) r) := by
  intro n
  induction n with
  | zero =>
    intro L r hn _
    have : L = [] := List.eq_nil_of_length_eq_zero (by omega)
    subst this
    rw [logGo_miss (s := asBytes []) (by rw [data_asBytes]; simp), List.nil_append]
  | succ n ih =>
    intro L r hn hat
    by_cases hm : (10 : UInt8) ∈ L
    · obtain ⟨a, L', rfl, ha⟩ := List.eq_append_cons_of_mem hm
      have h1 := logGo_cut (s := asBytes (a ++ 10 :: L')) (a := asBytes a) (t := L') (r := r) (by rw [data_asBytes, data_asBytes]) (by rw [data_asBytes]; exact ha)
      have h2 := logGo_cut (s := asBytes (a ++ 10 :: L' ++ t)) (a := asBytes a) (t := L' ++ t) (r := r) (by rw [data_asBytes, data_asBytes]; simp) (by rw [data_asBytes]; exact ha)
      rw [List.length_append, List.length_cons] at hat hn
      rcases hs : stepF r (asBytes a) with _ | r'
      · rw [hs] at h1
        rw [h1] at hat
        simp only at hat
        omega
      · rw [hs] at h1 h2
        simp only at h1 h2
        have h3 := stepF_at hs
        rw [asBytes_size] at h3
        rw [h1] at hat
        rw [h2, h1, ih L' r' (by omega) (by omega)]
    · have hL : logGo (splitS 10 (asBytes L)) r = r := logGo_miss (by rw [data_asBytes]; exact hm)
      rw [hL] at hat ⊢
      have : L = [] := List.eq_nil_of_length_eq_zero (by omega)
      subst this
      rw [List.nil_append]
theorem codeF_zero {s : ByteArray} (h : codeF s = 0) : s.size ≤ 4000 ∧ (logR s).at_ = s.size := by
  unfold codeF at h
  split at h
  · cases h
  · split at h
    · rename_i h1 h2; exact ⟨by omega, h2⟩
    · cases h
theorem addEF_valid {s : ByteArray} {x : En} (h : (addEF s x).2 = 0) : codeF (addEF s x).1 = 0 ∧ codeF s = 0 ∧ okEn x = true := by
  by_cases hc : codeF s = 0
  · rw [addEF_ok hc] at h ⊢
    rcases ho : okEn x with _ | _
    · rw [addG_bad ho] at h; cases h
    · by_cases hd : dayR (logR s).list ≤ x.day
      · by_cases hf : 4000 < (s ++ lineB (stampW (logR s).stamp (wordsB x)) x).size
        · rw [addG_full ho hd hf] at h; cases h
        · rw [addG_ok ho hd hf]
          refine ⟨codeF_ok hf ?_, hc, rfl⟩
          have hz := codeF_zero hc
          have hb := stampW_bd (logR s).stamp (wordsB x)
          obtain ⟨st, hst⟩ : ∃ z, stampW (logR s).stamp (wordsB x) = z := ⟨_, rfl⟩
          rw [hst] at hb ⊢
          have e1 : s ++ lineB st x = asBytes (s.data.toList ++ (lineBody st x ++ [10])) := by
            apply bytes_ext
            rw [data_asBytes, data_app, lineB_body]
          have hs0 : asBytes s.data.toList = s := asBytes_data s
          have h1 := logGo_app (lineBody st x ++ [10]) s.data.toList.length s.data.toList ⟨[], 0, 0⟩ (Nat.le_refl _) (by rw [hs0, data_len]; show (logR s).at_ = 0 + s.size; rw [hz.2, Nat.zero_add])
          have h2 := logGo_cut (s := asBytes (lineBody st x ++ [10])) (a := asBytes (lineBody st x)) (t := []) (r := logR s) (by rw [data_asBytes, data_asBytes]) (by rw [data_asBytes]; exact body_free ho)
          rw [stepF_yes (r := logR s) (body_line ho hb.1 hb.2) hd hst] at h2
          simp only at h2
          rw [logGo_miss (s := asBytes []) (by rw [data_asBytes]; simp)] at h2
          show (logGo (splitS 10 (s ++ lineB st x)) ⟨[], 0, 0⟩).at_ = _
          have h3 : logGo (splitS 10 (asBytes (lineBody st x ++ [10]))) (logGo (splitS 10 (asBytes s.data.toList)) ⟨[], 0, 0⟩) = logGo (splitS 10 (asBytes (lineBody st x ++ [10]))) (logR s) := by rw [hs0]; rfl
          rw [e1, h1, h3, h2, asBytes_size, asBytes_size]
          simp only [List.length_append, List.length_singleton, hz.2, ← data_len s]
          omega
      · rw [addG_day ho hd] at h; cases h
  · rw [addEF_bad hc] at h; exact absurd h hc
theorem addEF_cd (s : ByteArray) (x : En) : 0 ≤ (addEF s x).2 ∧ (addEF s x).2 ≤ 8 := by
  unfold addEF addG
  have h := codeF_bd s
  split
  · split
    · split
      · split <;> simp
      · simp
    · simp
  · exact h
/-- What holds of every command's answer holds of what is carried out. -/
theorem execF_all (P : Ans → Prop) (d : Dk) (ws : List ByteArray) (ns : List Int) (h1 : P (netC d ws)) (h2 : P (wayCm d ns)) (h3 : P (timesC d ns)) (h4 : P (runC d ns)) (h5 : P (runsCm d)) (h6 : P (freeC d ns)) (h7 : P (searchC d ns)) (h8 : P (stuckC d ns)) (h9 : P (queueC d ns)) (h10 : P (enterC d ws ns)) (h11 : P (logC d)) : P (execF d ws ns) := by
  unfold execF
  repeat' (first | assumption | split)
theorem wayC_cd (x : Nt) (a b : Int) : 0 ≤ (wayC x a b).2 ∧ (wayC x a b).2 ≤ 3 := by
  unfold wayC
  repeat' (first | (simp; done) | split)
theorem earlF_cd (ts : List Int) (rs : List Rn) (way : List Int) (a : Int) : 0 ≤ (earlF ts rs way a).2 ∧ (earlF ts rs way a).2 ≤ 5 := by
  unfold earlF
  repeat' (first | (simp; done) | split)
theorem earlF_zero {ts : List Int} {rs : List Rn} {way : List Int} {a : Int} (h : (earlF ts rs way a).2 = 0) : okRuns ts rs = true ∧ okWay ts way = true ∧ 0 ≤ (earlF ts rs way a).1 ∧ (earlF ts rs way a).1 ≤ 100000 := by
  rcases h1 : okRuns ts rs with _ | _
  · rw [earlF_1 h1] at h; cases h
  · rcases h2 : (okWay ts way && inR a 0 100000) with _ | _
    · rw [earlF_2 h1 h2] at h; cases h
    · rw [earlF_3 h1 h2] at h ⊢
      rw [Bool.and_eq_true] at h2
      have ha := inR_true.1 h2.2
      have he := (earl_is h1 h2.1 a).1
      split at h
      · cases h
      · rename_i hc
        rw [if_neg hc]
        exact ⟨rfl, h2.1, by show 0 ≤ earl ts rs way a; omega, by show earl ts rs way a ≤ 100000; omega⟩
theorem freeF_cd (ts : List Int) (rs : List Rn) (a b c : Int) : 0 ≤ (freeF ts rs a b c).2 ∧ (freeF ts rs a b c).2 ≤ 2 := by
  unfold freeF
  repeat' (first | (simp; done) | split)
theorem seaC_cd (ps : List Int) (sec : Int) : 0 ≤ (seaC ps sec).2.2 ∧ (seaC ps sec).2.2 ≤ 2 := by
  unfold seaC
  repeat' (first | (simp; done) | split)
theorem stuckF_cd (D : Int) (ts : List Tl) : 0 ≤ (stuckF D ts).2 ∧ (stuckF D ts).2 ≤ 9 := by
  unfold stuckF
  repeat' (first | (simp; done) | split)
theorem srvC_cd (l : List It) : 0 ≤ (srvC l).2 ∧ (srvC l).2 ≤ 1 := by
  unfold srvC
  repeat' (first | (simp; done) | split)
theorem whatF_cd (s t : ByteArray) : 0 ≤ whatF s t ∧ whatF s t ≤ 8 := by
  unfold whatF
  have h := codeF_bd s
  repeat' (first | assumption | (simp; done) | split)
theorem execF_cd (d : Dk) (ws : List ByteArray) (ns : List Int) : 0 ≤ (execF d ws ns).code ∧ (execF d ws ns).code ≤ 10 := by
  refine execF_all (fun a => 0 ≤ a.code ∧ a.code ≤ 10) d ws ns ?_ ?_ ?_ ?_ ?_ ?_ ?_ ?_ ?_ ?_ ?_
  · unfold netC
    split
    · exact ⟨by simp, by simp⟩
    · exact ⟨by simp, by simp⟩
  · have h := wayC_cd d.net (numAt ns 0) (numAt ns 1)
    exact ⟨h.1, by show (wayC d.net (numAt ns 0) (numAt ns 1)).2 ≤ 10; omega⟩
  · unfold timesC
    split
    · exact ⟨by simp, by simp⟩
    · exact ⟨by simp, by simp⟩
  · unfold runC
    have h := earlF_cd d.times d.runs (ns.drop 1) (numAt ns 0)
    split
    · exact ⟨h.1, by show (earlF d.times d.runs (ns.drop 1) (numAt ns 0)).2 ≤ 10; omega⟩
    · split
      · exact ⟨by simp, by simp⟩
      · exact ⟨by simp, by simp⟩
  · exact ⟨by show (0 : Int) ≤ 0; decide, by show (0 : Int) ≤ 10; decide⟩
  · have h := freeF_cd d.times d.runs (numAt ns 0) (numAt ns 1) (numAt ns 2)
    exact ⟨h.1, by show (freeF d.times d.runs (numAt ns 0) (numAt ns 1) (numAt ns 2)).2 ≤ 10; omega⟩
  · have h := seaC_cd (ns.drop 1) (numAt ns 0)
    exact ⟨h.1, by show (seaC (ns.drop 1) (numAt ns 0)).2.2 ≤ 10; omega⟩
  · unfold stuckC
    have h := stuckF_cd (numAt ns 0) (pairsOf (ns.drop 1))
    split
    · exact ⟨by simp, by simp⟩
    · exact ⟨h.1, by show (stuckF (numAt ns 0) (pairsOf (ns.drop 1))).2 ≤ 10; omega⟩
  · unfold queueC
    have h := srvC_cd (itsOf ns)
    split
    · exact ⟨by simp, by simp⟩
    · exact ⟨h.1, by show (srvC (itsOf ns)).2 ≤ 10; omega⟩
  · unfold enterC
    simp only
    have h := addEF_cd d.log ⟨numAt ns 0, wordAt ws 2, numAt ns 1⟩
    have h2 := whatF_cd (addEF d.log ⟨numAt ns 0, wordAt ws 2, numAt ns 1⟩).1 (wordAt ws 2)
    split
    · exact ⟨h.1, by show (addEF d.log ⟨numAt ns 0, wordAt ws 2, numAt ns 1⟩).2 ≤ 10; omega⟩
    · exact ⟨h2.1, by show whatF (addEF d.log ⟨numAt ns 0, wordAt ws 2, numAt ns 1⟩).1 (wordAt ws 2) ≤ 10; omega⟩
  · exact ⟨by show (0 : Int) ≤ 0; decide, by show (0 : Int) ≤ 10; decide⟩
theorem okDk_mk {n : Nt} {ts : List Int} {rs : List Rn} {lg : ByteArray} (h1 : okNt n = true) (h2 : okRuns ts rs = true) (h3 : codeF lg = 0) : okDk ⟨n, ts, rs, lg⟩ = true := by
  unfold okDk
  simp [h1, h2, h3]
theorem okL_ne (xs : List ByteArray) : okL xs ≠ [] := by unfold okL; simp
/-- A command that is carried out leaves a valid desk and one line or more. -/
theorem execF_ok {d : Dk} (h : okDk d = true) (ws : List ByteArray) (ns : List Int) : (execF d ws ns).code = 0 → okDk (execF d ws ns).dk = true ∧ (execF d ws ns).lines ≠ [] := by
  obtain ⟨h1, h2, h3⟩ := okDk_parts h
  refine execF_all (fun a => a.code = 0 → okDk a.dk = true ∧ a.lines ≠ []) d ws ns ?_ ?_ ?_ ?_ ?_ ?_ ?_ ?_ ?_ ?_ ?_
  · unfold netC
    split
    · intro hc; cases hc
    · rename_i hs
      intro _
      refine ⟨okDk_mk ?_ h2 h3, by simp⟩
      cases hn : netF (joinL 32 ((ws.drop 1).map fun s => s.data.toList)) with
      | none => rw [hn] at hs; exact absurd rfl hs
      | some n => rw [netV_some (s := asBytes _) (x := n) (by rw [data_asBytes]; exact hn)]; exact (netF_some hn).1
  · intro _; exact ⟨h, by simp [wayCm]⟩
  · unfold timesC
    split
    · intro hc; cases hc
    · rename_i ht
      intro _
      have ht2 : okTimes ns = true := by simpa using ht
      exact ⟨okDk_mk h1 (by unfold okRuns; simp [ht2]) h3, by simp⟩
  · unfold runC
    split
    · rename_i hc; intro hc2; exact absurd hc2 hc
    · rename_i hc
      split
      · intro hc2; cases hc2
      · rename_i h12
        intro _
        obtain ⟨e1, e2, e3, e4⟩ := earlF_zero (ts := d.times) (rs := d.runs) (way := ns.drop 1) (a := numAt ns 0) (by simpa using hc)
        have hl := okRuns_len h2
        refine ⟨okDk_mk h1 ?_ h3, by simp⟩
        unfold okRuns at h2 ⊢
        simp only [Bool.and_eq_true, decide_eq_true_eq, List.all_eq_true] at h2 ⊢
        refine ⟨h2.1, by rw [List.length_append, List.length_singleton]; omega, fun r hr => ?_⟩
        rw [List.mem_append, List.mem_singleton] at hr
        rcases hr with hr | rfl
        · exact h2.2.2 r hr
        · unfold okRun
          rw [Bool.and_eq_true]
          exact ⟨e2, inR_true.2 ⟨e3, e4⟩⟩
  · intro _; exact ⟨h, okL_ne _⟩
  · intro _; exact ⟨h, by simp [freeC]⟩
  · intro _; exact ⟨h, by simp [searchC]⟩
  · unfold stuckC
    split
    · intro hc; cases hc
    · intro _; exact ⟨h, by simp⟩
  · unfold queueC
    split
    · intro hc; cases hc
    · intro _; exact ⟨h, by simp⟩
  · unfold enterC
    simp only
    split
    · rename_i hc; intro hc2; exact absurd hc2 hc
    · rename_i hc
      intro _
      exact ⟨okDk_mk h1 h2 (addEF_valid (by simpa using hc)).1, by simp⟩
  · intro _; exact ⟨h, okL_ne _⟩
/-- What a command prints is small. -/
def Sml (xs : List ByteArray) : Prop := xs.length ≤ 4002 ∧ ∀ x ∈ xs, x.size ≤ 33554432
theorem Sml.nil : Sml [] := ⟨by simp, fun x hx => (by cases hx)⟩
theorem Sml.one {x : ByteArray} (h : x.size ≤ 33554432) : Sml [x] := ⟨by simp, fun y hy => by rw [List.mem_singleton] at hy; subst hy; exact h⟩
theorem Sml.okL {xs : List ByteArray} (h : xs.length ≤ 4000) (hx : ∀ x ∈ xs, x.size ≤ 33554432) : Sml (okL xs) := by
  refine ⟨by unfold Go.Proofs.YtjalgpioklcbfaaGreatDoor.okL; rw [List.length_append, List.length_singleton]; omega, fun y hy => ?_⟩
  unfold Go.Proofs.YtjalgpioklcbfaaGreatDoor.okL at hy
  rw [List.mem_append, List.mem_singleton] at hy
  rcases hy with hy | rfl
  · exact hx y hy
  · have := itoa_len (n := (xs.length : Int)) (by omega) (by omega)
    rw [ByteArray.size_append, asBytes_size]
    show 3 + _ ≤ _
    omega
theorem numLn_size {l : List Int} (hl : l.length ≤ 1048577) (hs : ∀ x ∈ l, i64b x) : (asBytes (numLn l)).size ≤ 33554432 := by
  rw [asBytes_size]
  unfold numLn
  split
  · simp
  · have := numT_len hs; omega
theorem itoa_size {n : Int} (h : i64b n) : (asBytes (itoa n)).size ≤ 33554432 := by
  have := itoa_len h.1 h.2
  rw [asBytes_size]; omega
theorem textDk_size {d : Dk} (h2 : d.times.length ≤ 1048576) (h3 : d.runs.length ≤ 1048576) : (textDk d).size ≤ 33554432 := by
  rcases ho : okDk d with _ | _
  · rw [textDk_no ho]; exact Nat.zero_le _
  · rw [textDk_yes ho]
    have hs := okDk_sta ho
    have g1 := itoa_len (n := d.net.sta) (by omega) (by omega)
    have g2 := itoa_len (n := (d.times.length : Int)) (by omega) (by omega)
    have g3 := itoa_len (n := (d.runs.length : Int)) (by omega) (by omega)
    unfold textD
    simp only [ByteArray.size_append, asBytes_size]
    show _ + 11 + _ + 8 + _ + 5 ≤ _
    omega
theorem flatP_len : ∀ l : List Tl, (flatP l).length = 2 * l.length
  | [] => rfl
  | (a, b) :: r => by rw [flatP, List.length_cons, List.length_cons, flatP_len r, List.length_cons]; omega
theorem stuckF_len (D : Int) (ts : List Tl) : (flatP (stuckF D ts).1).length ≤ 32 := by
  have := stuckF_len1 D ts
  rw [flatP_len]
  omega
theorem entW_words (x : En) : entW x = wordsB x := rfl
theorem execF_small {d : Dk} (h : okDk d = true) (ws : List ByteArray) (ns : List Int) (hn : ns.length ≤ 1048576) : Sml (execF d ws ns).lines := by
  obtain ⟨h1, h2, h3⟩ := okDk_parts h
  have hr12 := okRuns_len h2
  have ht24 := okTimes_len (okRuns_times h2)
  refine execF_all (fun a => Sml a.lines) d ws ns ?_ ?_ ?_ ?_ ?_ ?_ ?_ ?_ ?_ ?_ ?_
  · unfold netC
    split
    · exact .nil
    · exact .one (textDk_size (by show d.times.length ≤ _; omega) (by show d.runs.length ≤ _; omega))
  · have := wayC_len d.net (numAt ns 0) (numAt ns 1)
    exact .one (numLn_size (by omega) (wayC_bd _ _ _))
  · unfold timesC
    split
    · exact .nil
    · exact .one (textDk_size (by show ns.length ≤ _; omega) (by show ([] : List Rn).length ≤ _; simp))
  · unfold runC
    split
    · exact .nil
    · rename_i hc
      split
      · exact .nil
      · obtain ⟨e1, e2, e3, e4⟩ := earlF_zero (ts := d.times) (rs := d.runs) (way := ns.drop 1) (a := numAt ns 0) (by simpa using hc)
        exact .one (itoa_size ⟨by omega, by omega⟩)
  · refine .okL (by rw [List.length_map]; omega) fun x hx => ?_
    obtain ⟨r, hr, rfl⟩ := List.mem_map.1 hx
    obtain ⟨k, hk, he⟩ := List.getElem_of_mem hr
    have hq := okRuns_at h2 (k := k) (r := r) (by rw [List.getElem?_eq_getElem hk, he])
    have hw := okWay_mem hq.1
    refine numLn_size (by rw [List.length_cons]; omega) fun v hv => ?_
    rcases List.mem_cons.1 hv with rfl | hv
    · exact i64b_of (by omega) (by omega)
    · have := hw.2.2 v hv; exact i64b_of (by omega) (by omega)
  · refine .one ?_
    split <;> decide
  · have g1 := seaC_len (ns.drop 1) (numAt ns 0)
    have g2 := seaC_bd (ns.drop 1) (numAt ns 0)
    refine ⟨by simp [searchC], fun x hx => ?_⟩
    simp only [searchC, List.mem_cons, List.not_mem_nil, or_false] at hx
    rcases hx with rfl | rfl
    · exact numLn_size (by omega) g2.1
    · exact itoa_size g2.2
  · unfold stuckC
    split
    · exact .nil
    · have := stuckF_len (numAt ns 0) (pairsOf (ns.drop 1))
      exact .one (numLn_size (by omega) (stuckF_bd _ _))
  · unfold queueC
    split
    · exact .nil
    · have := srvC_len (itsOf ns)
      exact .one (numLn_size (by omega) (srvC_bd _))
  · unfold enterC
    simp only
    split
    · exact .nil
    · have hvb := valsF_bd (addEF d.log ⟨numAt ns 0, wordAt ws 2, numAt ns 1⟩).1 (wordAt ws 2)
      have hsb := sumTo_bd9 hvb.1 (valsF (addEF d.log ⟨numAt ns 0, wordAt ws 2, numAt ns 1⟩).1 (wordAt ws 2)).length
      exact .one (itoa_size ⟨by omega, by omega⟩)
  · have hl := logR_len h3
    refine .okL (by rw [List.length_map]; exact hl) fun x hx => ?_
    obtain ⟨e, he, rfl⟩ := List.mem_map.1 hx
    have := wordsB_small ((logR_ok d.log).ok e he)
    rw [entW_words]; omega
/-- The numbers of a line are small and few. -/
theorem numsF_bd (sh : ByteArray) : ∀ (ws : List ByteArray) (i : Nat) (acc ns : List Int), numsF sh ws i acc = some ns → (∀ x ∈ acc, i64b x) → (∀ x ∈ ns, i64b x) ∧ ns.length ≤ acc.length + ws.length
  | [], i, acc, ns, h, ha => by
    rw [numsF] at h
    injection h with h
    subst h
    exact ⟨ha, by simp⟩
  | w :: r, i, acc, ns, h, ha => by
    rw [numsF] at h
    split at h
    · split at h
      · have hb := readN_bd w.data.toList
        obtain ⟨g1, g2⟩ := numsF_bd sh r (i + 1) _ ns h (fun x hx => by
          rw [List.mem_append, List.mem_singleton] at hx
          rcases hx with hx | rfl
          · exact ha x hx
          · exact ⟨by omega, by omega⟩)
        refine ⟨g1, ?_⟩
        rw [List.length_append, List.length_singleton] at g2
        rw [List.length_cons]; omega
      · cases h
    · obtain ⟨g1, g2⟩ := numsF_bd sh r (i + 1) _ ns h ha
      exact ⟨g1, by rw [List.length_cons]; omega⟩
theorem cnm_size (c : Nat) : (cnm.getD c ⟨#[]⟩).size ≤ 9 := by
  rw [List.getD_eq_getElem?_getD]
  cases e : cnm[c]? with
  | none => exact Nat.zero_le _
  | some x =>
    have hx := List.mem_of_getElem? e
    have : ∀ y ∈ cnm, y.size ≤ 9 := by decide
    exact this x hx
theorem errL_size (c : Nat) : (errL c).size ≤ 33554432 := by
  have := cnm_size c
  unfold errL
  rw [ByteArray.size_append]
  show 6 + _ ≤ _
  omega
/-- A command on a valid desk: its code, the desk behind it, its lines. -/
theorem cmdF_ok {d : Dk} (h : okDk d = true) (line : ByteArray) (hl : line.size ≤ 1048575) : ((cmdF d line).code = 0 ∨ (cmdF d line).code = 7) ∧ ((cmdF d line).code = 0 → okDk (cmdF d line).dk = true ∧ (cmdF d line).lines ≠ []) ∧ Sml (cmdF d line).lines := by
  unfold cmdF
  simp only
  rw [if_neg (by rw [h]; decide)]
  split
  · exact ⟨.inr rfl, fun hc => (by cases hc), .nil⟩
  · split
    · exact ⟨.inr rfl, fun hc => (by cases hc), .nil⟩
    · split
      · exact ⟨.inl rfl, fun _ => ⟨h, by simp⟩, .one (errL_size _)⟩
      · rename_i ns hns
        split
        · exact ⟨.inl rfl, fun _ => ⟨h, by simp⟩, .one (errL_size _)⟩
        · rename_i hc
          have hc0 : (execF d (splitS 32 line) ns).code = 0 := by simpa using hc
          refine ⟨.inl hc0, execF_ok h _ _, execF_small h _ _ ?_⟩
          have hb := (numsF_bd _ _ _ _ _ hns (fun x hx => by cases hx)).2
          have hs := splitS_len 32 line
          have hcnt : line.data.toList.count 32 ≤ line.size := by rw [← data_len line]; exact List.count_le_length
          rw [List.length_drop, List.length_nil] at hb
          omega
end Go.Proofs.YtjalgpioklcbfaaGreatDoor
