/- Nothing. -/
import Derived.Test.YtcfbihponecblaaG16

