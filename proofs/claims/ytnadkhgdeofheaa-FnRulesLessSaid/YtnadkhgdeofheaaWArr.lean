-- written by a program of this session (tools/prune.py) out of the words of the print: those that this claim uses; Lean checks it
import Derived.Test.YtnadkhgdeofheaaWWords
